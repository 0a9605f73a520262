/- What the row of FnExactCoverOf leans on: for every slice of paths (that fits into memory) the law's functions answer alike; no condition. -/
import Derived.Test.YtldmhlpfkclclaaQFnExactCoverOfx15
set_option linter.unusedVariables false
set_option linter.unusedSimpArgs false
namespace Go.Proofs.Ytldmhlpfkclclaa.Pure
open Go.RowKit Go.Proofs.Ytldmhlpfkclclaa.PFnExactCoverOf Go.Proofs.YtldmhlpfkclclaaW.PrintWords Go.Proofs.YtldmhlpfkclclaaW.PrintLast

theorem wsucc {i n : Nat} (h : i < n) (hn : n ≤ 9223372036854775807) : wrap64 ((i : Int) + 1) = ((i + 1 : Nat) : Int) := by unfold wrap64; omega
theorem rd_nat (xs : List Int) (i : Nat) : rd xs (i : Int) = xs.getD i 0 := by unfold rd; rw [Int.toNat_natCast]
theorem rd_get (xs : List Int) (i : Nat) (h : i < xs.length) : rd xs (i : Int) = xs[i] := by
  rw [rd_nat, List.getD_eq_getElem?_getD, List.getElem?_eq_getElem h]; rfl
theorem drop_cons {α : Type} (xs : List α) (i : Nat) (h : i < xs.length) : xs.drop i = xs[i] :: xs.drop (i + 1) := (List.drop_eq_getElem_cons h)
theorem set_take {α : Type} (ys : List α) (i : Nat) (v : α) (h : i < ys.length) : (ys.set i v).take (i + 1) = ys.take i ++ [v] := by
  rw [List.take_succ_eq_append_getElem (by simpa using h)]
  rw [List.take_set, List.set_eq_of_length_le (by simp; omega)]
  simp

theorem rdI_get (xs : List S50) (i : Nat) (h : i < xs.length) : rd_T50 xs (i : Int) = xs[i] := by
  unfold rd_T50; rw [Int.toNat_natCast, List.getD_eq_getElem?_getD, List.getElem?_eq_getElem h]; rfl

def isPathV (a b c d : Int) : Bool := decide (1 ≤ a ∧ a ≤ 20) && (decide (1 ≤ b ∧ b ≤ 3) && (decide (0 ≤ c ∧ c ≤ 3) && (decide (0 ≤ d ∧ d ≤ 3) && ((c == d) == (b == 2)))))
theorem isPathV_iff (a b c d : Int) : isPathV a b c d = true ↔ (1 ≤ a ∧ a ≤ 20) ∧ (1 ≤ b ∧ b ≤ 3) ∧ (0 ≤ c ∧ c ≤ 3) ∧ (0 ≤ d ∧ d ≤ 3) ∧ (c = d ↔ b = 2) := by
  unfold isPathV
  simp only [Bool.and_eq_true, decide_eq_true_eq, beq_iff_eq]
  have : ((c == d) = (b == 2)) ↔ (c = d ↔ b = 2) := by
    rw [Bool.eq_iff_iff]; simp only [beq_iff_eq]
  rw [this]

def pathV (p : S50) : Bool := isPathV p.f0 p.f1 p.f2 p.f3
/-- The path at i is one, and above the one before it. -/
def okAt (l : List S50) (i : Nat) : Bool := pathV (l.getD i z50) && (decide (i = 0) || decide ((l.getD (i - 1) z50).f0 < (l.getD i z50).f0))
def arFrom (l : List S50) : Nat → Nat → Bool | 0, _ => true | d + 1, i => okAt l i && arFrom l d (i + 1)
def areV (l : List S50) : Bool := decide (l.length ≤ 12) && arFrom l l.length 0
theorem getDI (xs : List S50) (i : Nat) (h : i < xs.length) : xs.getD i z50 = xs[i] := by
  rw [List.getD_eq_getElem?_getD, List.getElem?_eq_getElem h]; rfl
theorem wpred {i : Nat} (h : 0 < i) (hi : i ≤ 9223372036854775807) : wrap64 ((i : Int) - 1) = ((i - 1 : Nat) : Int) := by unfold wrap64; omega
theorem arFrom_iff (l : List S50) : ∀ d i, arFrom l d i = true ↔ ∀ j, i ≤ j → j < i + d → okAt l j = true := by
  intro d
  induction d with
  | zero => intro i; simp only [arFrom, true_iff]; intro j h1 h2; omega
  | succ d ih =>
    intro i
    simp only [arFrom, Bool.and_eq_true, ih]
    constructor
    · rintro ⟨h1, h2⟩ j h3 h4
      rcases Nat.eq_or_lt_of_le h3 with rfl | h5
      · exact h1
      · exact h2 j h5 (by omega)
    · intro h; exact ⟨h i (Nat.le_refl _) (by omega), fun j h3 h4 => h j (by omega) (by omega)⟩

theorem inr (a b c : Int) : impl_InRange.f a b c = some (decide (b ≤ a ∧ a ≤ c)) := by
  unfold impl_InRange.f
  by_cases h : b ≤ a
  · rw [if_pos h]; congr 1; simp only [decide_eq_decide]; omega
  · rw [if_neg h]; congr 1; symm; simp only [decide_eq_false_iff_not]; omega

/-- The four numbers are different, from 0 to 7. -/
def ILv (a b c d : Int) : Prop := (0 ≤ a ∧ a ≤ 7) ∧ (0 ≤ b ∧ b ≤ 7) ∧ (0 ≤ c ∧ c ≤ 7) ∧ (0 ≤ d ∧ d ≤ 7) ∧ a ≠ b ∧ a ≠ c ∧ a ≠ d ∧ b ≠ c ∧ b ≠ d ∧ c ≠ d
theorem il_rd (a b c d : Int) : rd [a, b, c, d] 0 = a ∧ rd [a, b, c, d] 1 = b ∧ rd [a, b, c, d] 2 = c ∧ rd [a, b, c, d] 3 = d := ⟨rfl, rfl, rfl, rfl⟩
theorem il_w (i : Int) (h0 : 0 ≤ i) (h1 : i < 4) : wrap64 (i + 1) = i + 1 := by unfold wrap64; omega
/-- What it comes to, of numbers from 0 to 7. -/
def ilW (a b c d : Int) : Bool := decide ((c - a + 8) % 8 < (b - a + 8) % 8) != decide ((d - a + 8) % 8 < (b - a + 8) % 8)
instance (a b c d : Int) : Decidable (ILv a b c d) := by unfold ILv; infer_instance
def ilV (a b c d : Int) : Bool := decide (ILv a b c d) && ilW a b c d

/-- Do paths of these kinds, from there to there, conflict? -/
def cfW (k f t k' f' t' : Int) : Bool :=
  if k = 2 then (if k' = 2 then false else (f' == f || t' == f)) else
  if k' = 2 then (f == f' || t == f') else
  if f = f' then false else if t = t' then true else ilV (2 * f) (2 * t + 1) (2 * f') (2 * t' + 1)
def cfV (a b c d a' b' c' d' : Int) : Bool := isPathV a b c d && (isPathV a' b' c' d' && cfW b c d b' c' d')
theorem il_same (a b d : Int) : ilV a b a d = false := by
  unfold ilV; rw [decide_eq_false (by unfold ILv; omega), Bool.false_and]

/-- Do these two paths conflict? -/
def cfP (p q : S50) : Bool := cfV p.f0 p.f1 p.f2 p.f3 q.f0 q.f1 q.f2 q.f3
def cfAll (k f t k' f' t' : Fin 4) : Bool :=
  if 1 ≤ k.val ∧ 1 ≤ k'.val then cfW (k.val : Int) (f.val : Int) (t.val : Int) (k'.val : Int) (f'.val : Int) (t'.val : Int) == cfW (k'.val : Int) (f'.val : Int) (t'.val : Int) (k.val : Int) (f.val : Int) (t.val : Int) && !(cfW (k.val : Int) (f.val : Int) (t.val : Int) (k.val : Int) (f.val : Int) (t.val : Int)) else true
theorem cfAll_true : ∀ k f t k' f' t' : Fin 4, cfAll k f t k' f' t' = true := by decide +kernel
theorem cfW_sym (k f t k' f' t' : Int) (h : (1 ≤ k ∧ k ≤ 3) ∧ (0 ≤ f ∧ f ≤ 3) ∧ (0 ≤ t ∧ t ≤ 3)) (h' : (1 ≤ k' ∧ k' ≤ 3) ∧ (0 ≤ f' ∧ f' ≤ 3) ∧ (0 ≤ t' ∧ t' ≤ 3)) : cfW k f t k' f' t' = cfW k' f' t' k f t ∧ cfW k f t k f t = false := by
  obtain ⟨k, rfl⟩ := Int.eq_ofNat_of_zero_le (show 0 ≤ k by omega)
  obtain ⟨f, rfl⟩ := Int.eq_ofNat_of_zero_le (show 0 ≤ f by omega)
  obtain ⟨t, rfl⟩ := Int.eq_ofNat_of_zero_le (show 0 ≤ t by omega)
  obtain ⟨k', rfl⟩ := Int.eq_ofNat_of_zero_le (show 0 ≤ k' by omega)
  obtain ⟨f', rfl⟩ := Int.eq_ofNat_of_zero_le (show 0 ≤ f' by omega)
  obtain ⟨t', rfl⟩ := Int.eq_ofNat_of_zero_le (show 0 ≤ t' by omega)
  have := cfAll_true ⟨k, by omega⟩ ⟨f, by omega⟩ ⟨t, by omega⟩ ⟨k', by omega⟩ ⟨f', by omega⟩ ⟨t', by omega⟩
  unfold cfAll at this
  rw [if_pos ⟨by simp only; omega, by simp only; omega⟩, Bool.and_eq_true] at this
  exact ⟨eq_of_beq this.1, by simpa using this.2⟩
theorem cfV_sym (a b c d a' b' c' d' : Int) : cfV a b c d a' b' c' d' = cfV a' b' c' d' a b c d := by
  unfold cfV
  cases h : isPathV a b c d with
  | false => cases isPathV a' b' c' d' <;> rfl
  | true =>
    cases h' : isPathV a' b' c' d' with
    | false => rfl
    | true =>
      obtain ⟨_, hb, hc, hd, _⟩ := (isPathV_iff a b c d).1 h
      obtain ⟨_, hb', hc', hd', _⟩ := (isPathV_iff a' b' c' d').1 h'
      rw [Bool.true_and, Bool.true_and]
      exact (cfW_sym b c d b' c' d' ⟨hb, hc, hd⟩ ⟨hb', hc', hd'⟩).1
theorem cfP_sym (p q : S50) : cfP p q = cfP q p := cfV_sym ..
theorem cfP_irr (p : S50) : cfP p p = false := by
  unfold cfP cfV
  cases h : isPathV p.f0 p.f1 p.f2 p.f3 with
  | false => rfl
  | true =>
    obtain ⟨_, hb, hc, hd, _⟩ := (isPathV_iff _ _ _ _).1 h
    rw [Bool.true_and, Bool.true_and]
    exact (cfW_sym _ _ _ _ _ _ ⟨hb, hc, hd⟩ ⟨hb, hc, hd⟩).2

/-- The place of the first path with this number. -/
def findV (l : List S50) (x : Int) : Int := impl_FindPath.go l x 0
theorem go_bd (l : List S50) (x : Int) : ∀ i : Int, 0 ≤ i → (impl_FindPath.go l x i = -1 ∧ (∀ p ∈ l, p.f0 ≠ x)) ∨ (i ≤ impl_FindPath.go l x i ∧ impl_FindPath.go l x i < i + l.length ∧ (l.getD (impl_FindPath.go l x i - i).toNat z50).f0 = x) := by
  induction l with
  | nil => intro i _; left; exact ⟨rfl, by simp⟩
  | cons p r ih =>
    intro i hi
    simp only [impl_FindPath.go]
    by_cases h : p.f0 = x
    · rw [if_pos h]; right; refine ⟨by omega, by simp only [List.length_cons]; omega, ?_⟩; simp [h]
    · rw [if_neg h]
      rcases ih (i + 1) (by omega) with ⟨h1, h2⟩ | ⟨h1, h2, h3⟩
      · left; refine ⟨h1, ?_⟩
        intro q hq
        rcases List.mem_cons.1 hq with rfl | hq
        · exact h
        · exact h2 q hq
      · right
        refine ⟨by omega, by simp only [List.length_cons]; omega, ?_⟩
        have e : (impl_FindPath.go r x (i + 1) - i).toNat = (impl_FindPath.go r x (i + 1) - (i + 1)).toNat + 1 := by omega
        rw [e]; simpa using h3
theorem findV_bd (l : List S50) (x : Int) (h : 0 ≤ findV l x) : findV l x < l.length ∧ (l.getD (findV l x).toNat z50).f0 = x := by
  rcases go_bd l x 0 (by omega) with ⟨h1, _⟩ | ⟨_, h2, h3⟩
  · unfold findV at h; omega
  · unfold findV; refine ⟨by omega, ?_⟩; simpa using h3
theorem findV_neg (l : List S50) (x : Int) (h : ¬ 0 ≤ findV l x) : ∀ p ∈ l, p.f0 ≠ x := by
  rcases go_bd l x 0 (by omega) with ⟨_, h1⟩ | ⟨h1, _, _⟩
  · exact h1
  · exact absurd h1 h
/-- The path with this number. -/
def pOf (l : List S50) (x : Int) : S50 := l.getD (findV l x).toNat z50
theorem rd_find (l : List S50) (x : Int) (h : 0 ≤ findV l x) : rd_T50 l (findV l x) = pOf l x := rfl

/-- Does p conflict with none of the e numbers from j on? -/
def frFrom (l : List S50) (p : S50) (ids : List Int) : Nat → Nat → Bool | 0, _ => true | e + 1, j => !cfP p (pOf l (ids.getD j 0)) && frFrom l p ids e (j + 1)
def tgAt (l : List S50) (ids : List Int) (i : Nat) : Bool := decide (0 ≤ findV l (ids.getD i 0)) && ((decide (i = 0) || decide (ids.getD (i - 1) 0 < ids.getD i 0)) && frFrom l (pOf l (ids.getD i 0)) ids i 0)
def tgFrom (l : List S50) (ids : List Int) : Nat → Nat → Bool | 0, _ => true | d + 1, i => tgAt l ids i && tgFrom l ids d (i + 1)
def togV (l : List S50) (ids : List Int) : Bool := areV l && tgFrom l ids ids.length 0

/-- The place before the first number that is not below x. -/
def posV (x : Int) : List Int → Nat | [] => 0 | y :: r => if y < x then posV x r + 1 else 0
def putAt (ids : List Int) (x : Int) (p : Nat) : List Int := if ids[p]? = some x then ids else ids.take p ++ x :: ids.drop p
def putV (ids : List Int) (x : Int) : List Int := putAt ids x (posV x ids)
theorem posV_le (x : Int) : ∀ ids : List Int, posV x ids ≤ ids.length
  | [] => Nat.le_refl _
  | y :: r => by
    have := posV_le x r
    simp only [posV, List.length_cons]
    split <;> omega
theorem putV_length (ids : List Int) (x : Int) : (putV ids x).length ≤ ids.length + 1 := by
  have := posV_le x ids
  unfold putV putAt
  split
  · omega
  · simp; omega
theorem posV_char (x : Int) : ∀ (ids : List Int) (p : Nat), p ≤ ids.length → (∀ a, a < p → ids.getD a 0 < x) → (p < ids.length → ¬ ids.getD p 0 < x) → posV x ids = p
  | [], p, hp, _, _ => by have : p = 0 := by simpa using hp
                          subst this; rfl
  | y :: r, 0, _, _, h2 => by
    have : ¬ y < x := by simpa using h2 (by simp)
    simp only [posV]; rw [if_neg this]
  | y :: r, p + 1, hp, h1, h2 => by
    have h0 : y < x := by simpa using h1 0 (by omega)
    simp only [posV]; rw [if_pos h0, posV_char x r p (by simpa using hp) (fun a ha => by simpa using h1 (a + 1) (by omega)) (fun hlt => by simpa using h2 (by simpa using hlt))]
/-- Ascending. -/
def Asc (ids : List Int) : Prop := ∀ a b, a < b → b < ids.length → ids.getD a 0 < ids.getD b 0
theorem mem_pos (ids : List Int) (x : Int) (ha : Asc ids) (hx : ids[posV x ids]? ≠ some x) : x ∉ ids := by
  intro hm
  obtain ⟨i, hi, he⟩ := List.getElem_of_mem hm
  have hg : ids.getD i 0 = x := by rw [List.getD_eq_getElem?_getD, List.getElem?_eq_getElem hi]; exact he
  have hp : posV x ids = i := posV_char x ids i (by omega) (fun a h => by have := ha a i h hi; omega) (fun _ => by omega)
  rw [hp, List.getElem?_eq_getElem hi, he] at hx
  exact hx rfl
theorem put_mem (ids : List Int) (x : Int) (ha : Asc ids) (hx : x ∈ ids) : putV ids x = ids := by
  unfold putV putAt
  rw [if_pos]
  by_cases h : ids[posV x ids]? = some x
  · exact h
  · exact absurd hx (mem_pos ids x ha h)
theorem put_new (ids : List Int) (x : Int) (hx : x ∉ ids) : putV ids x = ids.take (posV x ids) ++ x :: ids.drop (posV x ids) := by
  unfold putV putAt
  rw [if_neg (fun h => hx (List.mem_of_getElem? h))]
theorem tgFrom_at (l : List S50) (ids : List Int) : ∀ (d i : Nat), i + d = ids.length → tgFrom l ids d i = true → ∀ j, i ≤ j → j < ids.length → tgAt l ids j = true := by
  intro d
  induction d with
  | zero => intro i hi _ j h1 h2; omega
  | succ d ih =>
    intro i hi h j h1 h2
    simp only [tgFrom, Bool.and_eq_true] at h
    by_cases he : j = i
    · subst he; exact h.1
    · exact ih (i + 1) (by omega) h.2 j (by omega) h2
theorem togV_asc (l : List S50) (ids : List Int) (h : togV l ids = true) : Asc ids := by
  unfold togV at h
  rw [Bool.and_eq_true] at h
  have hat := tgFrom_at l ids ids.length 0 (by omega) h.2
  have step : ∀ j, 1 ≤ j → j < ids.length → ids.getD (j - 1) 0 < ids.getD j 0 := by
    intro j h1 h2
    have := hat j (by omega) h2
    simp only [tgAt, Bool.and_eq_true, Bool.or_eq_true, decide_eq_true_eq] at this
    rcases this.2.1 with h0 | h0
    · omega
    · exact h0
  intro a b hab hb
  obtain ⟨d, rfl⟩ : ∃ d, b = a + 1 + d := ⟨b - (a + 1), by omega⟩
  induction d with
  | zero => have := step (a + 1) (by omega) (by omega); simpa using this
  | succ d ih =>
    have h1 := ih (by omega) (by omega)
    have h2 := step (a + 1 + (d + 1)) (by omega) hb
    have e : a + 1 + (d + 1) - 1 = a + 1 + d := by omega
    rw [e] at h2
    omega

theorem sPut_go (ids : List Int) (x : Int) (hn : ids.length ≤ 1099511627776) : ∀ (d k i : Nat), i + d = ids.length → d < k → spec_l6Put.l0 k ids x (i : Int) = some (putAt ids x (i + posV x (ids.drop i))) := by
  intro d
  induction d with
  | zero =>
    intro k i hi hk
    obtain ⟨k, rfl⟩ : ∃ m, k = m + 1 := ⟨k - 1, by omega⟩
    simp only [spec_l6Put.l0]
    obtain rfl : i = ids.length := by omega
    have e : ids.drop ids.length = [] := List.drop_of_length_le (Nat.le_refl _)
    rw [if_neg (by omega), Option.bind_some, if_pos (by omega), if_pos (by omega), Int.toNat_natCast, List.take_length, if_pos (by simp; omega), Option.bind_some, Option.bind_some, if_pos (by simp; omega), Option.bind_some, e, if_pos (by simp; omega)]
    simp [posV, putAt]
  | succ d ih =>
    intro k i hi hk
    obtain ⟨k, rfl⟩ : ∃ m, k = m + 1 := ⟨k - 1, by omega⟩
    have hl : (ids.take i).length = i := by rw [List.length_take]; omega
    have hd : (ids.drop i).length = ids.length - i := List.length_drop
    simp only [spec_l6Put.l0]
    rw [if_pos (by omega), if_pos (by omega), rd_get ids i (by omega), Int.toNat_natCast, drop_cons ids i (by omega)]
    simp only [posV]
    by_cases h : ids[i] < x
    · rw [if_pos h, if_pos h, wsucc (show i < ids.length by omega) (by omega), ih k (i + 1) (by omega) (by omega)]
      congr 2; omega
    · have hg : ids[i]? = some ids[i] := List.getElem?_eq_getElem (by omega)
      rw [if_neg h, if_neg h]
      unfold putAt
      show _ = some (if ids[i]? = some x then ids else ids.take i ++ x :: ids.drop i)
      rw [hg]
      by_cases he : ids[i] = x
      · rw [if_pos he, Option.bind_some, if_pos (by simp; omega), if_pos (by rw [he])]; rfl
      · rw [if_neg he, Option.bind_some, if_pos (by omega), if_pos (by simp; omega), Option.bind_some, Option.bind_some, if_pos (by simp; omega), Option.bind_some, ← drop_cons ids i (by omega), if_pos (by simp; omega), if_neg (by simp [he])]
        simp
theorem sPut_eq (k : Nat) (ids : List Int) (x : Int) (hk : ids.length < k) (hn : ids.length ≤ 1099511627776) : spec_l6Put.f k ids x = some (putV ids x) := by
  unfold spec_l6Put.f putV
  have := sPut_go ids x hn ids.length k 0 (by omega) hk
  rw [Int.natCast_zero, List.drop_zero, Nat.zero_add] at this
  exact this

theorem mid_eq (i j : Nat) (h : i < j) (hj : j ≤ 1099511627776) : wrap64 ((IntKind.u64.wrap (wrap64 ((i : Int) + (j : Int)))) / 2) = (((i + j) / 2 : Nat) : Int) := by
  have e1 : wrap64 ((i : Int) + (j : Int)) = (i : Int) + j := by unfold wrap64; omega
  have e2 : IntKind.u64.wrap ((i : Int) + j) = (i : Int) + j := by
    show ((i : Int) + j) % 18446744073709551616 = _
    omega
  rw [e1, e2]
  unfold wrap64; omega
theorem less_eq (a b : Int) : cmp_Less_int.f a b = some (decide (a < b)) := by
  unfold cmp_Less_int.f cmp_isNaN_int.f
  simp
theorem bs_go (ids : List Int) (x : Int) (ha : Asc ids) (hn : ids.length ≤ 1099511627776) : ∀ (d k i j : Nat), j = i + d → j ≤ ids.length → d < k → (∀ a, a < i → ids.getD a 0 < x) → (∀ b, j ≤ b → b < ids.length → ¬ ids.getD b 0 < x) →
    ∃ q, slices_BinarySearch_int_int.l0 k ids x (ids.length : Int) (i : Int) (j : Int) = some ((posV x ids : Int), q) := by
  intro d
  induction d using Nat.strongRecOn with
  | ind d ih =>
    intro k i j hj hjl hk h1 h2
    obtain ⟨k, rfl⟩ : ∃ m, k = m + 1 := ⟨k - 1, by omega⟩
    simp only [slices_BinarySearch_int_int.l0]
    by_cases hd : i < j
    · have hh : (i + j) / 2 < ids.length := by omega
      have hm := mid_eq i j hd (by omega)
      have hs : wrap64 ((((i + j) / 2 : Nat) : Int) + 1) = (((i + j) / 2 + 1 : Nat) : Int) := by unfold wrap64; omega
      rw [if_pos (by omega), hm, if_pos (by omega), if_pos (by omega), rd_nat, less_eq, Option.bind_some, hs]
      by_cases hx : ids.getD ((i + j) / 2) 0 < x
      · rw [if_pos (decide_eq_true hx)]
        refine ih (j - ((i + j) / 2 + 1)) (by omega) k ((i + j) / 2 + 1) j (by omega) hjl (by omega) (fun a haa => ?_) h2
        by_cases he : a = (i + j) / 2
        · rw [he]; exact hx
        · have := ha a ((i + j) / 2) (by omega) hh; omega
      · rw [if_neg (by rw [decide_eq_false hx]; decide)]
        refine ih ((i + j) / 2 - i) (by omega) k i ((i + j) / 2) (by omega) (by omega) (by omega) h1 (fun b hb hbl => ?_)
        by_cases he : b = (i + j) / 2
        · rw [he]; exact hx
        · have := ha ((i + j) / 2) b (by omega) hbl; omega
    · obtain rfl : i = j := by omega
      have hp : posV x ids = i := posV_char x ids i hjl h1 (fun hlt => h2 i (Nat.le_refl _) hlt)
      rw [if_neg (by omega), hp]
      by_cases hlt : i < ids.length
      · rw [if_pos (by omega), if_pos (by omega), if_pos (by omega)]
        unfold slices_isNaN_int.f
        split
        · exact ⟨_, rfl⟩
        · simp
      · rw [if_neg (by omega)]; exact ⟨_, rfl⟩
theorem ins_eq (k : Nat) (ids : List Int) (x : Int) (ha : Asc ids) (hk : ids.length < k) (hn : ids.length ≤ 1099511627776) (hx : x ∉ ids) : impl_inserted.f k ids x = some (putV ids x) := by
  unfold impl_inserted.f slices_BinarySearch_int_int.f
  obtain ⟨q, h⟩ := bs_go ids x ha hn ids.length k 0 ids.length (by omega) (Nat.le_refl _) hk (fun a h => absurd h (by omega)) (fun b h1 h2 => absurd h2 (by omega))
  rw [Int.natCast_zero] at h
  have := posV_le x ids
  rw [h, Option.bind_some]
  dsimp only
  rw [if_pos ⟨by omega, by omega, by omega⟩, Int.toNat_natCast, put_new ids x hx]



theorem put_fuel (n m : Nat) (h : m ≤ n + 1) : m * (m + 4) ≤ (n + 1) * (n + 5) := Nat.mul_le_mul h (by omega)

def stepA (l : List S50) (out : List Int) (p : S50) : List Int := if togV l (putV out p.f0) = true then putV out p.f0 else out
theorem stepA_length (l : List S50) (out : List Int) (p : S50) : (stepA l out p).length ≤ out.length + 1 := by
  have := putV_length out p.f0
  unfold stepA
  split <;> omega
theorem foldA_length (l : List S50) : ∀ (r : List S50) (out : List Int), (r.foldl (stepA l) out).length ≤ out.length + r.length
  | [], out => Nat.le_refl _
  | p :: r, out => by
    have h1 := foldA_length l r (stepA l out p)
    have h2 := stepA_length l out p
    simp only [List.foldl_cons, List.length_cons]
    omega
def addV (l : List S50) (ids : List Int) : List Int := if togV l ids = true then l.foldl (stepA l) ids else ids
theorem addV_length (l : List S50) (ids : List Int) : (addV l ids).length ≤ ids.length + l.length := by
  unfold addV
  split
  · exact foldA_length l l ids
  · omega
theorem fuelN (n N : Nat) (h : n ≤ N) : (n + 1) * (n + 5) ≤ (N + 1) * (N + 5) := Nat.mul_le_mul (by omega) (by omega)

theorem index_go (xs : List Int) (n : Int) (hn : xs.length ≤ 9223372036854775807) : ∀ (d k : Nat) (i : Nat), i + d = xs.length → d < k →
    ∃ r, slices_Index_int_int.l0 k xs n (xs.length : Int) (i : Int) = some r ∧ (0 ≤ r ↔ n ∈ xs.drop i) := by
  intro d
  induction d with
  | zero =>
    intro k i hi hk
    obtain ⟨k, rfl⟩ : ∃ m, k = m + 1 := ⟨k - 1, by omega⟩
    simp only [slices_Index_int_int.l0]
    rw [if_neg (by omega), List.drop_of_length_le (by omega)]
    exact ⟨-1, rfl, by simp⟩
  | succ d ih =>
    intro k i hi hk
    obtain ⟨k, rfl⟩ : ∃ m, k = m + 1 := ⟨k - 1, by omega⟩
    simp only [slices_Index_int_int.l0]
    rw [if_pos (by omega), if_pos (by omega), if_pos (by omega), rd_get _ _ (by omega), wsucc (show i < xs.length by omega) hn, drop_cons xs i (by omega)]
    by_cases h : n = xs[i]
    · rw [if_pos h]; exact ⟨_, rfl, by simp only [List.mem_cons, ← h, true_or, iff_true]; omega⟩
    · rw [if_neg h]
      obtain ⟨r, hr, hiff⟩ := ih k (i + 1) (by omega) (by omega)
      exact ⟨r, hr, by rw [hiff]; simp only [List.mem_cons, h, false_or]⟩
theorem contains_eq (k : Nat) (l : List Int) (n : Int) (hk : l.length < k) (hn : l.length ≤ 9223372036854775807) : slices_Contains_int_int.f k l n = some (decide (n ∈ l)) := by
  unfold slices_Contains_int_int.f slices_Index_int_int.f
  obtain ⟨r, hr, hiff⟩ := index_go l n hn l.length k 0 (by omega) hk
  rw [Int.natCast_zero] at hr
  rw [hr, Option.bind_some]
  congr 1
  rw [decide_eq_decide]
  simpa using hiff

def coverB (rows : List (List Int)) (x : Int) : Bool := rows.any fun s => decide (x ∈ s)
theorem cov_go (M k : Nat) (x : Int) (hM : M ≤ 1099511627776) (hk : M < k) : ∀ (rows : List (List Int)) (i : Int), (∀ s ∈ rows, s.length ≤ M) → 0 ≤ i → ∃ r, impl_isCovered.go k rows x i = some r ∧ decide (0 ≤ r) = coverB rows x := by
  intro rows
  induction rows with
  | nil => intro i _ _; exact ⟨-1, rfl, rfl⟩
  | cons s r ih =>
    intro i hs hi
    have hsl := hs s List.mem_cons_self
    simp only [impl_isCovered.go]
    rw [contains_eq k s x (by omega) (by omega), Option.bind_some]
    by_cases h : x ∈ s
    · rw [if_pos (decide_eq_true h)]
      exact ⟨i, rfl, by unfold coverB; rw [List.any_cons, decide_eq_true h, decide_eq_true hi]; rfl⟩
    · rw [if_neg (by rw [decide_eq_false h]; decide)]
      obtain ⟨q, h1, h2⟩ := ih (i + 1) (fun t ht => hs t (List.mem_cons_of_mem _ ht)) (by omega)
      exact ⟨q, h1, by rw [h2]; unfold coverB; rw [List.any_cons, decide_eq_false h, Bool.false_or]⟩
theorem cov_eq (M k : Nat) (rows : List (List Int)) (x : Int) (hM : M ≤ 1099511627776) (hk : M < k) (hs : ∀ s ∈ rows, s.length ≤ M) : impl_isCovered.f k rows x = some (coverB rows x) := by
  unfold impl_isCovered.f
  obtain ⟨r, h1, h2⟩ := cov_go M k x hM hk rows 0 hs (by omega)
  rw [h1, Option.bind_some, h2]

/-- The cover that is built from left to right. -/
def stepC (l : List S50) (out : List (List Int)) (p : S50) : List (List Int) := if coverB out p.f0 = true then out else out ++ [addV l [p.f0]]
def coverV (l : List S50) : List (List Int) := if areV l = true then l.foldl (stepC l) [] else []
theorem stepC_rows (l : List S50) (out : List (List Int)) (p : S50) (M : Nat) (hM : 1 + l.length ≤ M) (h : ∀ s ∈ out, s.length ≤ M) : ∀ s ∈ stepC l out p, s.length ≤ M := by
  intro s hs
  unfold stepC at hs
  split at hs
  · exact h s hs
  · rcases List.mem_append.1 hs with hs | hs
    · exact h s hs
    · rw [List.mem_singleton] at hs; subst hs
      have := addV_length l [p.f0]
      simp at this; omega
theorem foldC_rows (l : List S50) (M : Nat) (hM : 1 + l.length ≤ M) : ∀ (r : List S50) (out : List (List Int)), (∀ s ∈ out, s.length ≤ M) → (∀ s ∈ r.foldl (stepC l) out, s.length ≤ M) ∧ (r.foldl (stepC l) out).length ≤ out.length + r.length
  | [], out, h => ⟨h, by simp⟩
  | p :: r, out, h => by
    obtain ⟨h1, h2⟩ := foldC_rows l M hM r (stepC l out p) (stepC_rows l out p M hM h)
    refine ⟨h1, ?_⟩
    have : (stepC l out p).length ≤ out.length + 1 := by unfold stepC; split <;> simp
    rw [List.foldl_cons, List.length_cons]; omega
theorem coverV_rows (l : List S50) : (∀ s ∈ coverV l, s.length ≤ 13) ∧ (coverV l).length ≤ 12 := by
  unfold coverV
  split
  · rename_i ha
    have hl : l.length ≤ 12 := by unfold areV at ha; rw [Bool.and_eq_true, decide_eq_true_eq] at ha; exact ha.1
    obtain ⟨h1, h2⟩ := foldC_rows l 13 (by omega) l [] (by simp)
    exact ⟨h1, by simp at h2; omega⟩
  · exact ⟨by simp, by simp⟩

theorem iIsPath (a b c d : Int) : impl_IsPath.f a b c d = some (isPathV a b c d) := by
  unfold impl_IsPath.f isPathV
  simp only [inr, Option.bind_some]
  generalize decide (1 ≤ a ∧ a ≤ 20) = p1
  generalize decide (1 ≤ b ∧ b ≤ 3) = p2
  generalize decide (0 ≤ c ∧ c ≤ 3) = p3
  generalize decide (0 ≤ d ∧ d ≤ 3) = p4
  cases p1 <;> cases p2 <;> cases p3 <;> cases p4 <;> rfl

theorem w64 {x : Int} (h0 : -9223372036854775808 ≤ x) (h1 : x ≤ 9223372036854775807) : wrap64 x = x := by
  unfold wrap64; omega

theorem iIn_eq (a : Int) (h0 : 0 ≤ a) (h1 : a ≤ 3) : impl_InPlace.f a = some (2 * a) := by
  unfold impl_InPlace.f
  rw [inr, Option.bind_some, if_pos (by simp; omega), w64 (by omega) (by omega)]
theorem iOut_eq (a : Int) (h0 : 0 ≤ a) (h1 : a ≤ 3) : impl_OutPlace.f a = some (2 * a + 1) := by
  unfold impl_OutPlace.f
  rw [inr, Option.bind_some, if_pos (by simp; omega), w64 (x := 2 * a) (by omega) (by omega), w64 (by omega) (by omega)]

theorem il_R (k : Nat) (a b c d : Int) (l : List Int) (hl : l.length = 4) (n : Int) (i : Int) (h0 : 0 ≤ i) (h1 : i < n) (h2 : i < 4) :
    impl_Interleave.l0 (k + 1) a b c d l n i = if 0 ≤ rd l i ∧ rd l i ≤ 7 then impl_Interleave.l0 k a b c d l n (i + 1) else some false := by
  simp only [impl_Interleave.l0]; rw [if_pos h1, if_pos h0, if_pos (by omega), inr]
  simp only [Option.bind_some, decide_eq_true_eq, il_w i h0 h2]
theorem il_Rend (k : Nat) (a b c d : Int) (l : List Int) (n : Int) (i : Int) (h1 : ¬ i < n) (h : ¬ (a ≠ b ∧ a ≠ c ∧ a ≠ d ∧ b ≠ c ∧ b ≠ d ∧ c ≠ d)) :
    impl_Interleave.l0 (k + 1) a b c d l n i = some false := by
  simp only [impl_Interleave.l0]; rw [if_neg h1]
  repeat' split
  all_goals first | rfl | (exfalso; apply h; omega)
theorem il_impl_no (a b c d : Int) (h : ¬ ILv a b c d) : impl_Interleave.f 40 a b c d = some false := by
  obtain ⟨r0, r1, r2, r3⟩ := il_rd a b c d
  have hl : [a, b, c, d].length = 4 := rfl
  unfold impl_Interleave.f
  rw [Option.bind_some, hl]
  rw [il_R _ _ _ _ _ _ hl _ _ (by omega) (by omega) (by omega), Int.zero_add, r0]
  split
  · rw [il_R _ _ _ _ _ _ hl _ _ (by omega) (by omega) (by omega), show (1 : Int) + 1 = 2 from rfl, r1]
    split
    · rw [il_R _ _ _ _ _ _ hl _ _ (by omega) (by omega) (by omega), show (2 : Int) + 1 = 3 from rfl, r2]
      split
      · rw [il_R _ _ _ _ _ _ hl _ _ (by omega) (by omega) (by omega), show (3 : Int) + 1 = 4 from rfl, r3]
        split
        · exact il_Rend _ a b c d _ _ _ (by omega) (fun h' => h (by unfold ILv; omega))
        · rfl
      · rfl
    · rfl
  · rfl
def ilBothI (a b c d : Fin 8) : Bool :=
  if a ≠ b ∧ a ≠ c ∧ a ≠ d ∧ b ≠ c ∧ b ≠ d ∧ c ≠ d then impl_Interleave.f 40 (a.val : Int) (b.val : Int) (c.val : Int) (d.val : Int) == some (ilW (a.val : Int) (b.val : Int) (c.val : Int) (d.val : Int))
  else true
theorem ilBothI_all : ∀ a b c d : Fin 8, ilBothI a b c d = true := by decide +kernel
theorem il_yesI (a b c d : Int) (h : ILv a b c d) : impl_Interleave.f 40 a b c d = some (ilW a b c d) := by
  obtain ⟨⟨a0, a1⟩, ⟨b0, b1⟩, ⟨c0, c1⟩, ⟨d0, d1⟩, h1, h2, h3, h4, h5, h6⟩ := h
  obtain ⟨a, rfl⟩ := Int.eq_ofNat_of_zero_le a0
  obtain ⟨b, rfl⟩ := Int.eq_ofNat_of_zero_le b0
  obtain ⟨c, rfl⟩ := Int.eq_ofNat_of_zero_le c0
  obtain ⟨d, rfl⟩ := Int.eq_ofNat_of_zero_le d0
  have := ilBothI_all ⟨a, by omega⟩ ⟨b, by omega⟩ ⟨c, by omega⟩ ⟨d, by omega⟩
  unfold ilBothI at this
  rw [if_pos (by simp only [ne_eq, Fin.mk.injEq]; omega)] at this
  exact eq_of_beq this
theorem iIl_eq (k : Nat) (a b c d : Int) (hk : 40 ≤ k) : impl_Interleave.f k a b c d = some (ilV a b c d) := by
  refine at_rounds (fun k => impl_Interleave.mono a b c d k) hk ?_
  unfold ilV
  by_cases h : ILv a b c d
  · rw [il_yesI a b c d h, decide_eq_true h, Bool.true_and]
  · rw [il_impl_no a b c d h, decide_eq_false h, Bool.false_and]

theorem iConf_eq (k : Nat) (a b c d a' b' c' d' : Int) (hk : 41 < k) : impl_Conflict.f k a b c d a' b' c' d' = some (cfV a b c d a' b' c' d') := by
  obtain ⟨k, rfl⟩ : ∃ m, k = m + 1 := ⟨k - 1, by omega⟩
  unfold impl_Conflict.f cfV cfW
  simp only [iIsPath, Option.bind_some, impl_Conflict.j0]
  cases h1 : isPathV a b c d with
  | false => simp
  | true =>
    cases h2 : isPathV a' b' c' d' with
    | false => simp
    | true =>
      obtain ⟨_, _, hc, hd, _⟩ := (isPathV_iff a b c d).1 h1
      obtain ⟨_, _, hc', hd', _⟩ := (isPathV_iff a' b' c' d').1 h2
      simp only [if_true, Bool.true_and, Bool.false_eq_true, if_false]
      by_cases hb : b = 2
      · rw [if_pos hb, if_pos hb]
        by_cases hb' : b' = 2
        · rw [if_pos hb', if_pos (by rw [hb']; rfl), if_pos hb]
        · rw [if_neg (by rw [beq_iff_eq]; exact hb'), if_pos hb, if_neg hb']
          by_cases h : c' = c
          · rw [if_pos h, h]; simp
          · rw [if_neg h]; simp [h]
      · rw [if_neg hb, if_neg hb, if_neg hb]
        by_cases hb' : b' = 2
        · rw [if_pos hb', if_pos hb']
          by_cases h : c = c'
          · rw [if_pos h, h]; simp
          · rw [if_neg h]; simp [h]
        · rw [if_neg hb', if_neg hb', iIn_eq c hc.1 hc.2, iOut_eq d hd.1 hd.2, iIn_eq c' hc'.1 hc'.2, iOut_eq d' hd'.1 hd'.2]
          simp only [Option.bind_some]
          rw [iIl_eq k _ _ _ _ (by omega)]
          simp only [Option.bind_some]
          by_cases h : c = c'
          · rw [if_pos h, if_pos h, h, il_same]
          · rw [if_neg h, if_neg h]
            split <;> rfl

theorem iCfq (k : Nat) (p q : S50) (hk : 41 < k) : impl_Conflict.f k p.f0 p.f1 p.f2 p.f3 q.f0 q.f1 q.f2 q.f3 = some (cfP p q) := iConf_eq k _ _ _ _ _ _ _ _ hk

theorem iAre_go (l : List S50) (hn : l.length ≤ 9223372036854775807) : ∀ (d k : Nat) (i : Nat), i + d = l.length → d < k → impl_ArePaths.l0 k l l (l.length : Int) (i : Int) = some (arFrom l d i) := by
  intro d
  induction d with
  | zero =>
    intro k i hi hk
    obtain ⟨k, rfl⟩ : ∃ m, k = m + 1 := ⟨k - 1, by omega⟩
    simp only [impl_ArePaths.l0, arFrom]
    rw [if_neg (by omega)]
  | succ d ih =>
    intro k i hi hk
    obtain ⟨k, rfl⟩ : ∃ m, k = m + 1 := ⟨k - 1, by omega⟩
    simp only [impl_ArePaths.l0, arFrom, okAt]
    rw [if_pos (by omega), if_pos (by omega), if_pos (by omega), iIsPath, Option.bind_some, rdI_get _ _ (by omega), wsucc (show i < l.length by omega) hn, ih k (i + 1) (by omega) (by omega), getDI l i (by omega)]
    have hpv : isPathV (l[i]).f0 (l[i]).f1 (l[i]).f2 (l[i]).f3 = pathV l[i] := rfl
    rw [hpv]
    cases hp : pathV l[i] with
    | false => rw [if_neg (by decide), Bool.false_and, Bool.false_and]
    | true =>
      rw [if_pos rfl]
      by_cases h0 : i = 0
      · subst h0
        rw [if_neg (by omega)]; simp
      · rw [if_pos (by omega), wpred (by omega) (by omega), if_pos (by omega), if_pos (by omega), rdI_get _ _ (by omega), getDI l (i - 1) (by omega), decide_eq_false h0, Bool.false_or, Bool.true_and]
        by_cases hc : (l[i - 1]).f0 < (l[i]).f0
        · rw [if_neg (by omega), decide_eq_true hc, Bool.true_and]
        · rw [if_pos (by omega), decide_eq_false hc, Bool.false_and]
theorem iAre_eq (k : Nat) (l : List S50) (hk : l.length < k) (hn : l.length ≤ 9223372036854775807) : impl_ArePaths.f k l = some (areV l) := by
  unfold impl_ArePaths.f areV
  have := iAre_go l hn l.length k 0 (by omega) hk
  rw [Int.natCast_zero] at this
  by_cases h : l.length ≤ 12
  · rw [if_neg (by omega), decide_eq_true h, Bool.true_and]; exact this
  · rw [if_pos (by omega), decide_eq_false h, Bool.false_and]

theorem iTog_go (l : List S50) (ids : List Int) (hl : l.length ≤ 12) (hn : ids.length ≤ 1099511627776) : ∀ (d k i : Nat), i + d = ids.length → d * (ids.length + 4) + l.length + 60 < k → (∀ j, j < i → 0 ≤ findV l (ids.getD j 0)) →
    impl_IsTogether.l0 k l ids ids (ids.length : Int) (i : Int) = some (tgFrom l ids d i) := by
  intro d
  induction d with
  | zero =>
    intro k i hi hk hf
    obtain ⟨k, rfl⟩ : ∃ m, k = m + 1 := ⟨k - 1, by omega⟩
    simp only [impl_IsTogether.l0, tgFrom]
    rw [if_neg (by omega)]
  | succ d ih =>
    intro k i hi hk hf
    rw [Nat.succ_mul] at hk
    obtain ⟨k, rfl⟩ : ∃ m, k = m + 1 + 1 := ⟨k - 2, by omega⟩
    have hg : rd ids (i : Int) = ids.getD i 0 := rd_nat _ _
    have inner : ∀ (e k j : Nat), j + e = i → e + d * (ids.length + 4) + l.length + 61 < k → 0 ≤ findV l (ids.getD i 0) →
        impl_IsTogether.l1 k l ids (findV l (ids.getD i 0)) ids (ids.length : Int) (i : Int) (ids.take i) (i : Int) (j : Int) = some (frFrom l (pOf l (ids.getD i 0)) ids e j && tgFrom l ids d (i + 1)) := by
      intro e
      induction e with
      | zero =>
        intro k j hj hk hfi
        obtain ⟨k, rfl⟩ : ∃ m, k = m + 1 := ⟨k - 1, by omega⟩
        simp only [impl_IsTogether.l1, frFrom]
        rw [if_neg (by omega), Bool.true_and, wsucc (show i < ids.length by omega) (by omega)]
        refine ih k (i + 1) (by omega) (by omega) (fun j hj => ?_)
        rcases Nat.lt_succ_iff_lt_or_eq.1 hj with h | rfl
        · exact hf j h
        · exact hfi
      | succ e ihe =>
        intro k j hj hk hfi
        obtain ⟨k, rfl⟩ : ∃ m, k = m + 1 := ⟨k - 1, by omega⟩
        have hlt : (ids.take i).length = i := by rw [List.length_take]; omega
        obtain ⟨fi, _⟩ := findV_bd l _ hfi
        obtain ⟨fj, _⟩ := findV_bd l _ (hf j (by omega))
        simp only [impl_IsTogether.l1, frFrom, impl_FindPath.f]
        have hr : rd (ids.take i) (j : Int) = ids.getD j 0 := by
          rw [rd_nat, List.getD_eq_getElem?_getD, List.getD_eq_getElem?_getD, List.getElem?_take, if_pos (by omega)]
        rw [if_pos (by omega), if_pos (by omega), if_pos (by omega), if_pos hfi, if_pos fi, Option.bind_some, hr]
        have hfj := hf j (by omega)
        have e1 : impl_FindPath.go l (ids.getD j 0) 0 = findV l (ids.getD j 0) := rfl
        rw [e1, if_pos hfj, if_pos fj, rd_find l _ hfi, rd_find l _ hfj, iCfq k _ _ (by omega), Option.bind_some, wsucc (show j < i by omega) (by omega)]
        cases hc : cfP (pOf l (ids.getD i 0)) (pOf l (ids.getD j 0)) with
        | true => rw [if_pos rfl]; rfl
        | false => rw [if_neg (by decide), ihe k (j + 1) (by omega) (by omega) hfi]; rfl
    simp only [impl_IsTogether.l0, impl_IsTogether.j1, tgFrom, tgAt, impl_FindPath.f]
    rw [if_pos (by omega), if_pos (by omega), if_pos (by omega), Option.bind_some, hg]
    have e1 : impl_FindPath.go l (ids.getD i 0) 0 = findV l (ids.getD i 0) := rfl
    have hti : (ids.take i).length = i := by rw [List.length_take]; omega
    rw [e1, Int.toNat_natCast, hti]
    by_cases hfi : 0 ≤ findV l (ids.getD i 0)
    · rw [if_neg (by omega), decide_eq_true hfi, Bool.true_and]
      have hin := inner i k 0 (by omega) (by omega) hfi
      rw [Int.natCast_zero] at hin
      by_cases h0 : i = 0
      · rw [if_neg (by omega), if_neg (by decide), if_pos (by omega), if_pos (by omega), hin, decide_eq_true h0, Bool.true_or, Bool.true_and]
      · rw [if_pos (by omega), wpred (by omega) (by omega), if_pos (by omega), if_pos (by omega), rd_nat, decide_eq_false h0, Bool.false_or]
        by_cases hc : ids.getD (i - 1) 0 < ids.getD i 0
        · rw [decide_eq_false (by omega), if_neg (by decide), if_pos (by omega), if_pos (by omega), hin, decide_eq_true hc, Bool.true_and]
        · rw [decide_eq_true (by omega), if_pos rfl, decide_eq_false hc]; rfl
    · rw [if_pos (by omega), decide_eq_false hfi]; simp
theorem iTog_eq (k : Nat) (l : List S50) (ids : List Int) (hk : ids.length * (ids.length + 4) + l.length + 60 < k) (hl : l.length ≤ 1099511627776) (hn : ids.length ≤ 1099511627776) : impl_IsTogether.f k l ids = some (togV l ids) := by
  unfold impl_IsTogether.f togV
  rw [iAre_eq k l (by omega) (by omega), Option.bind_some]
  by_cases ha : areV l = true
  · have h12 : l.length ≤ 12 := by unfold areV at ha; rw [Bool.and_eq_true, decide_eq_true_eq] at ha; exact ha.1
    have := iTog_go l ids h12 hn ids.length k 0 (by omega) hk (fun j hj => absurd hj (by omega))
    rw [Int.natCast_zero] at this
    rw [if_pos ha, ha, Bool.true_and]; exact this
  · rw [if_neg ha]; simp only [Bool.not_eq_true] at ha; rw [ha]; rfl

theorem sFind_go (l : List S50) (x : Int) (hn : l.length ≤ 9223372036854775807) : ∀ (d k : Nat) (i : Nat), i + d = l.length → d < k → spec_FindPath.l0 k l x (i : Int) = some (impl_FindPath.go (l.drop i) x i) := by
  intro d
  induction d with
  | zero =>
    intro k i hi hk
    obtain ⟨k, rfl⟩ : ∃ m, k = m + 1 := ⟨k - 1, by omega⟩
    simp only [spec_FindPath.l0]
    rw [if_neg (by omega), List.drop_of_length_le (by omega)]; rfl
  | succ d ih =>
    intro k i hi hk
    obtain ⟨k, rfl⟩ : ∃ m, k = m + 1 := ⟨k - 1, by omega⟩
    simp only [spec_FindPath.l0]
    rw [if_pos (by omega), if_pos (by omega), rdI_get _ _ (by omega), wsucc (show i < l.length by omega) hn, ih k (i + 1) (by omega) (by omega), drop_cons l i (by omega)]
    simp only [impl_FindPath.go, Int.natCast_add, Int.natCast_one]
    split <;> rfl
theorem sFind_eq (k : Nat) (l : List S50) (x : Int) (hk : l.length < k) (hn : l.length ≤ 9223372036854775807) : spec_FindPath.f k l x = some (impl_FindPath.go l x 0) := by
  unfold spec_FindPath.f
  have := sFind_go l x hn l.length k 0 (by omega) hk
  rw [Int.natCast_zero] at this
  exact this

theorem in1 (a b c : Int) : spec_l1In.f a b c = some (decide (b ≤ a ∧ a ≤ c)) := by
  unfold spec_l1In.f
  by_cases h : a ≥ b
  · rw [if_pos h]; congr 1; simp only [decide_eq_decide]; omega
  · rw [if_neg h]; congr 1; symm; simp only [decide_eq_false_iff_not]; omega

theorem sIsPath (a b c d : Int) : spec_IsPath.f a b c d = some (isPathV a b c d) := by
  unfold spec_IsPath.f isPathV
  simp only [in1, Option.bind_some]
  generalize decide (1 ≤ a ∧ a ≤ 20) = p1
  generalize decide (1 ≤ b ∧ b ≤ 3) = p2
  generalize decide (0 ≤ c ∧ c ≤ 3) = p3
  generalize decide (0 ≤ d ∧ d ≤ 3) = p4
  cases p1 <;> cases p2 <;> cases p3 <;> cases p4 <;> rfl

theorem sIn_eq (a : Int) (h0 : 0 ≤ a) (h1 : a ≤ 3) : spec_InPlace.f a = some (2 * a) := by
  unfold spec_InPlace.f
  rw [in1, Option.bind_some, if_pos (by simp; omega), w64 (by omega) (by omega)]
theorem sOut_eq (a : Int) (h0 : 0 ≤ a) (h1 : a ≤ 3) : spec_OutPlace.f a = some (2 * a + 1) := by
  unfold spec_OutPlace.f
  rw [in1, Option.bind_some, if_pos (by simp; omega), w64 (x := 2 * a) (by omega) (by omega), w64 (by omega) (by omega)]

theorem il_S (k : Nat) (a b c d : Int) (l : List Int) (i : Int) (h1 : i < 4) : spec_Interleave.l0 (k + 1) a b c d l i = spec_Interleave.l1 k a b c d l i 0 := by
  simp only [spec_Interleave.l0]; rw [if_pos h1]
theorem il_T (k : Nat) (a b c d : Int) (l : List Int) (hl : l.length = 4) (i j : Int) (h0 : 0 ≤ j) (h1 : j < i) (h2 : i < 4) :
    spec_Interleave.l1 (k + 1) a b c d l i j = if rd l i = rd l j then some false else spec_Interleave.l1 k a b c d l i (j + 1) := by
  simp only [spec_Interleave.l1]; rw [if_pos h1, if_pos (by omega), if_pos (by omega), if_pos h0, if_pos (by omega), il_w j h0 (by omega)]
theorem il_E (k : Nat) (a b c d : Int) (l : List Int) (hl : l.length = 4) (i : Int) (h0 : 0 ≤ i) (h2 : i < 4) :
    spec_Interleave.l1 (k + 1) a b c d l i i = if 0 ≤ rd l i ∧ rd l i ≤ 7 then spec_Interleave.l0 k a b c d l (i + 1) else some false := by
  simp only [spec_Interleave.l1]; rw [if_neg (by omega), if_pos (by omega), if_pos (by omega), in1]
  simp only [Option.bind_some, decide_eq_true_eq, il_w i h0 h2]
theorem il_spec_no (a b c d : Int) (h : ¬ ILv a b c d) : spec_Interleave.f 40 a b c d = some false := by
  obtain ⟨r0, r1, r2, r3⟩ := il_rd a b c d
  have hl : [a, b, c, d].length = 4 := rfl
  unfold spec_Interleave.f
  rw [il_S _ _ _ _ _ _ _ (by omega), il_E _ _ _ _ _ _ hl _ (by omega) (by omega), r0]
  split
  · rw [il_S _ _ _ _ _ _ _ (by omega), il_T _ _ _ _ _ _ hl _ _ (by omega) (by omega) (by omega), Int.zero_add, r0, r1]
    split
    · rfl
    · rw [il_E _ _ _ _ _ _ hl _ (by omega) (by omega), r1]
      split
      · rw [il_S _ _ _ _ _ _ _ (by omega), show (1 : Int) + 1 = 2 from rfl, il_T _ _ _ _ _ _ hl _ _ (by omega) (by omega) (by omega), Int.zero_add, r0, r2]
        split
        · rfl
        · rw [il_T _ _ _ _ _ _ hl _ _ (by omega) (by omega) (by omega), show (1 : Int) + 1 = 2 from rfl, r1, r2]
          split
          · rfl
          · rw [il_E _ _ _ _ _ _ hl _ (by omega) (by omega), r2]
            split
            · rw [il_S _ _ _ _ _ _ _ (by omega), show (2 : Int) + 1 = 3 from rfl, il_T _ _ _ _ _ _ hl _ _ (by omega) (by omega) (by omega), Int.zero_add, r0, r3]
              split
              · rfl
              · rw [il_T _ _ _ _ _ _ hl _ _ (by omega) (by omega) (by omega), show (1 : Int) + 1 = 2 from rfl, r1, r3]
                split
                · rfl
                · rw [il_T _ _ _ _ _ _ hl _ _ (by omega) (by omega) (by omega), show (2 : Int) + 1 = 3 from rfl, r2, r3]
                  split
                  · rfl
                  · rw [il_E _ _ _ _ _ _ hl _ (by omega) (by omega), r3]
                    split
                    · exfalso; apply h; unfold ILv; omega
                    · rfl
            · rfl
      · rfl
  · rfl
def ilBothS (a b c d : Fin 8) : Bool :=
  if a ≠ b ∧ a ≠ c ∧ a ≠ d ∧ b ≠ c ∧ b ≠ d ∧ c ≠ d then spec_Interleave.f 40 (a.val : Int) (b.val : Int) (c.val : Int) (d.val : Int) == some (ilW (a.val : Int) (b.val : Int) (c.val : Int) (d.val : Int))
  else true
theorem ilBothS_all : ∀ a b c d : Fin 8, ilBothS a b c d = true := by decide +kernel
theorem il_yesS (a b c d : Int) (h : ILv a b c d) : spec_Interleave.f 40 a b c d = some (ilW a b c d) := by
  obtain ⟨⟨a0, a1⟩, ⟨b0, b1⟩, ⟨c0, c1⟩, ⟨d0, d1⟩, h1, h2, h3, h4, h5, h6⟩ := h
  obtain ⟨a, rfl⟩ := Int.eq_ofNat_of_zero_le a0
  obtain ⟨b, rfl⟩ := Int.eq_ofNat_of_zero_le b0
  obtain ⟨c, rfl⟩ := Int.eq_ofNat_of_zero_le c0
  obtain ⟨d, rfl⟩ := Int.eq_ofNat_of_zero_le d0
  have := ilBothS_all ⟨a, by omega⟩ ⟨b, by omega⟩ ⟨c, by omega⟩ ⟨d, by omega⟩
  unfold ilBothS at this
  rw [if_pos (by simp only [ne_eq, Fin.mk.injEq]; omega)] at this
  exact eq_of_beq this
theorem sIl_eq (k : Nat) (a b c d : Int) (hk : 40 ≤ k) : spec_Interleave.f k a b c d = some (ilV a b c d) := by
  refine at_rounds (fun k => spec_Interleave.mono a b c d k) hk ?_
  unfold ilV
  by_cases h : ILv a b c d
  · rw [il_yesS a b c d h, decide_eq_true h, Bool.true_and]
  · rw [il_spec_no a b c d h, decide_eq_false h, Bool.false_and]

theorem sConf_eq (k : Nat) (a b c d a' b' c' d' : Int) (hk : 41 < k) : spec_Conflict.f k a b c d a' b' c' d' = some (cfV a b c d a' b' c' d') := by
  obtain ⟨k, rfl⟩ : ∃ m, k = m + 1 := ⟨k - 1, by omega⟩
  unfold spec_Conflict.f cfV cfW
  simp only [sIsPath, Option.bind_some, spec_Conflict.j0]
  cases h1 : isPathV a b c d with
  | false => simp
  | true =>
    cases h2 : isPathV a' b' c' d' with
    | false => simp
    | true =>
      obtain ⟨_, _, hc, hd, _⟩ := (isPathV_iff a b c d).1 h1
      obtain ⟨_, _, hc', hd', _⟩ := (isPathV_iff a' b' c' d').1 h2
      simp only [if_true, Bool.true_and, Bool.false_eq_true, if_false]
      by_cases hb : b = 2
      · rw [if_pos hb, if_pos hb]
        by_cases hb' : b' = 2
        · rw [if_pos hb', if_pos (by rw [hb']; rfl), if_pos hb]
        · rw [if_neg (by rw [beq_iff_eq]; exact hb'), if_pos hb, if_neg hb']
          by_cases h : c' = c
          · rw [if_pos h, h]; simp
          · rw [if_neg h]; simp [h]
      · rw [if_neg hb, if_neg hb, if_neg hb]
        by_cases hb' : b' = 2
        · rw [if_pos hb', if_pos hb']
          by_cases h : c = c'
          · rw [if_pos h, h]; simp
          · rw [if_neg h]; simp [h]
        · rw [if_neg hb', if_neg hb']
          by_cases h : c = c'
          · rw [if_pos h, if_pos h]
          · rw [if_neg h, if_neg h]
            by_cases h' : d = d'
            · rw [if_pos h', if_pos h']
            · rw [if_neg h', if_neg h', sIn_eq c hc.1 hc.2, sOut_eq d hd.1 hd.2, sIn_eq c' hc'.1 hc'.2, sOut_eq d' hd'.1 hd'.2]
              simp only [Option.bind_some]
              rw [sIl_eq k _ _ _ _ (by omega)]; rfl

theorem sCfq (k : Nat) (p q : S50) (hk : 41 < k) : spec_Conflict.f k p.f0 p.f1 p.f2 p.f3 q.f0 q.f1 q.f2 q.f3 = some (cfP p q) := sConf_eq k _ _ _ _ _ _ _ _ hk

theorem sAre_go (l : List S50) (hn : l.length ≤ 9223372036854775807) : ∀ (d k : Nat) (i : Nat), i + d = l.length → d < k → spec_ArePaths.l0 k l (i : Int) = some (decide (l.length ≤ 12) && arFrom l d i) := by
  intro d
  induction d with
  | zero =>
    intro k i hi hk
    obtain ⟨k, rfl⟩ : ∃ m, k = m + 1 := ⟨k - 1, by omega⟩
    simp only [spec_ArePaths.l0, arFrom]
    rw [if_neg (by omega), Bool.and_true]; congr 1; rw [decide_eq_decide]; omega
  | succ d ih =>
    intro k i hi hk
    obtain ⟨k, rfl⟩ : ∃ m, k = m + 1 := ⟨k - 1, by omega⟩
    simp only [spec_ArePaths.l0, arFrom, okAt]
    rw [if_pos (by omega), if_pos (by omega), sIsPath, Option.bind_some, rdI_get _ _ (by omega), wsucc (show i < l.length by omega) hn, ih k (i + 1) (by omega) (by omega), getDI l i (by omega)]
    have hpv : isPathV (l[i]).f0 (l[i]).f1 (l[i]).f2 (l[i]).f3 = pathV l[i] := rfl
    rw [hpv]
    cases hp : pathV l[i] with
    | false => rw [if_neg (by decide), Bool.false_and, Bool.false_and, Bool.and_false]
    | true =>
      rw [if_pos rfl]
      by_cases h0 : i = 0
      · subst h0
        rw [if_neg (by omega)]; simp
      · rw [if_pos (by omega), wpred (by omega) (by omega), if_pos (by omega), if_pos (by omega), rdI_get _ _ (by omega), getDI l (i - 1) (by omega), decide_eq_false h0, Bool.false_or, Bool.true_and]
        by_cases hc : (l[i - 1]).f0 < (l[i]).f0
        · rw [if_neg (by omega), decide_eq_true hc, Bool.true_and]
        · rw [if_pos (by omega), decide_eq_false hc, Bool.false_and, Bool.and_false]
theorem sAre_eq (k : Nat) (l : List S50) (hk : l.length < k) (hn : l.length ≤ 9223372036854775807) : spec_ArePaths.f k l = some (areV l) := by
  unfold spec_ArePaths.f areV
  have := sAre_go l hn l.length k 0 (by omega) hk
  rw [Int.natCast_zero] at this
  exact this

theorem sTog_go (l : List S50) (ids : List Int) (hl : l.length ≤ 1099511627776) (hn : ids.length ≤ 1099511627776) : ∀ (d k i : Nat), i + d = ids.length → d * (ids.length + 4) + l.length + 60 < k → (∀ j, j < i → 0 ≤ findV l (ids.getD j 0)) →
    spec_IsTogether.l0 k l ids (i : Int) = some (tgFrom l ids d i && areV l) := by
  intro d
  induction d with
  | zero =>
    intro k i hi hk hf
    obtain ⟨k, rfl⟩ : ∃ m, k = m + 1 := ⟨k - 1, by omega⟩
    simp only [spec_IsTogether.l0, tgFrom]
    rw [if_neg (by omega), sAre_eq k l (by omega) (by omega), Bool.true_and]; rfl
  | succ d ih =>
    intro k i hi hk hf
    rw [Nat.succ_mul] at hk
    obtain ⟨k, rfl⟩ : ∃ m, k = m + 1 + 1 := ⟨k - 2, by omega⟩
    have hg : rd ids (i : Int) = ids.getD i 0 := rd_nat _ _
    have inner : ∀ (e k j : Nat), j + e = i → e + d * (ids.length + 4) + l.length + 61 < k → 0 ≤ findV l (ids.getD i 0) →
        spec_IsTogether.l1 k l ids (i : Int) (findV l (ids.getD i 0)) (j : Int) = some (frFrom l (pOf l (ids.getD i 0)) ids e j && (tgFrom l ids d (i + 1) && areV l)) := by
      intro e
      induction e with
      | zero =>
        intro k j hj hk hfi
        obtain ⟨k, rfl⟩ : ∃ m, k = m + 1 := ⟨k - 1, by omega⟩
        simp only [spec_IsTogether.l1, frFrom]
        rw [if_neg (by omega), Bool.true_and, wsucc (show i < ids.length by omega) (by omega)]
        refine ih k (i + 1) (by omega) (by omega) (fun j hj => ?_)
        rcases Nat.lt_succ_iff_lt_or_eq.1 hj with h | rfl
        · exact hf j h
        · exact hfi
      | succ e ihe =>
        intro k j hj hk hfi
        obtain ⟨k, rfl⟩ : ∃ m, k = m + 1 := ⟨k - 1, by omega⟩
        obtain ⟨fi, _⟩ := findV_bd l _ hfi
        have hfj := hf j (by omega)
        obtain ⟨fj, _⟩ := findV_bd l _ hfj
        simp only [spec_IsTogether.l1, frFrom]
        have e1 : impl_FindPath.go l (ids.getD j 0) 0 = findV l (ids.getD j 0) := rfl
        rw [if_pos (by omega), if_pos hfi, if_pos fi, if_pos (by omega), if_pos (by omega), rd_nat, sFind_eq k l _ (by omega) (by omega), Option.bind_some, e1, if_pos hfj, if_pos fj, rd_find l _ hfi, rd_find l _ hfj, sCfq k _ _ (by omega), Option.bind_some, wsucc (show j < i by omega) (by omega)]
        cases hc : cfP (pOf l (ids.getD i 0)) (pOf l (ids.getD j 0)) with
        | true => rw [if_pos rfl]; rfl
        | false => rw [if_neg (by decide), ihe k (j + 1) (by omega) (by omega) hfi]; rfl
    simp only [spec_IsTogether.l0, spec_IsTogether.j1, tgFrom, tgAt]
    have e1 : impl_FindPath.go l (ids.getD i 0) 0 = findV l (ids.getD i 0) := rfl
    rw [if_pos (by omega), if_pos (by omega), hg, sFind_eq (k + 1) l _ (by omega) (by omega), Option.bind_some, e1]
    by_cases hfi : 0 ≤ findV l (ids.getD i 0)
    · rw [if_neg (by omega), decide_eq_true hfi, Bool.true_and]
      have hin := inner i k 0 (by omega) (by omega) hfi
      rw [Int.natCast_zero] at hin
      by_cases h0 : i = 0
      · rw [if_neg (by omega), if_neg (by decide), hin, decide_eq_true h0, Bool.true_or, Bool.true_and, Bool.and_assoc]
      · rw [if_pos (by omega), wpred (by omega) (by omega), if_pos (by omega), if_pos (by omega), rd_nat, decide_eq_false h0, Bool.false_or]
        by_cases hc : ids.getD (i - 1) 0 < ids.getD i 0
        · rw [decide_eq_false (by omega), if_neg (by decide), hin, decide_eq_true hc, Bool.true_and, Bool.and_assoc]
        · rw [decide_eq_true (by omega), if_pos rfl, decide_eq_false hc]; rfl
    · rw [if_pos (by omega), decide_eq_false hfi]; simp
theorem sTog_eq (k : Nat) (l : List S50) (ids : List Int) (hk : ids.length * (ids.length + 4) + l.length + 60 < k) (hl : l.length ≤ 1099511627776) (hn : ids.length ≤ 1099511627776) : spec_IsTogether.f k l ids = some (togV l ids) := by
  unfold spec_IsTogether.f togV
  have := sTog_go l ids hl hn ids.length k 0 (by omega) hk (fun j hj => absurd hj (by omega))
  rw [Int.natCast_zero] at this
  rw [this, Bool.and_comm]

theorem sAdd_go (l : List S50) (ids : List Int) (N : Nat) (hN : N ≤ 1099511627) (hl : l.length ≤ 1048576) (hi0 : ids.length ≤ N) (ht : togV l ids = true) : ∀ (d k i : Nat) (out : List Int), i + d = l.length → out.length + d ≤ N → 2 * d + (N + 1) * (N + 5) + l.length + N + 70 < k →
    spec_AddToStage.l0 k l ids out (i : Int) = some ((l.drop i).foldl (stepA l) out) := by
  intro d
  induction d with
  | zero =>
    intro k i out hi ho hk
    obtain ⟨k, rfl⟩ : ∃ m, k = m + 1 + 1 := ⟨k - 2, by omega⟩
    simp only [spec_AddToStage.l0, spec_AddToStage.j1]
    rw [if_neg (by omega), if_neg (by decide), List.drop_of_length_le (by omega)]; rfl
  | succ d ih =>
    intro k i out hi ho hk
    obtain ⟨k, rfl⟩ : ∃ m, k = m + 1 + 1 := ⟨k - 2, by omega⟩
    have f0 := fuelN ids.length N hi0
    have f00 := put_fuel ids.length ids.length (by omega)
    have f1 := fuelN out.length N (by omega)
    have hp := putV_length out l[i].f0
    have f2 := put_fuel out.length _ hp
    simp only [spec_AddToStage.l0, spec_AddToStage.j1]
    rw [if_pos (by omega), sTog_eq (k + 1) l ids (by omega) (by omega) (by omega), Option.bind_some, if_pos ht, if_pos (by omega), if_pos (by omega), rdI_get l i (by omega), sPut_eq k out _ (by omega) (by omega), Option.bind_some, sTog_eq k l _ (by omega) (by omega) (by omega), Option.bind_some, wsucc (show i < l.length by omega) (by omega), drop_cons l i (by omega), List.foldl_cons]
    have hs := stepA_length l out l[i]
    by_cases h : togV l (putV out l[i].f0) = true
    · have e : stepA l out l[i] = putV out l[i].f0 := by unfold stepA; rw [if_pos h]
      rw [if_pos h, e, ih k (i + 1) _ (by omega) (by omega) (by omega)]
    · have e : stepA l out l[i] = out := by unfold stepA; rw [if_neg h]
      rw [if_neg h, e, ih k (i + 1) _ (by omega) (by omega) (by omega)]
theorem sAdd_eq (k : Nat) (l : List S50) (ids : List Int) (hk : (ids.length + l.length + 1) * (ids.length + l.length + 5) + 4 * l.length + ids.length + 71 < k) (hl : l.length ≤ 1048576) (hn : ids.length ≤ 1048576) : spec_AddToStage.f k l ids = some (addV l ids) := by
  unfold spec_AddToStage.f addV
  rw [Option.bind_some, if_pos (by simp; omega), List.nil_append]
  by_cases ht : togV l ids = true
  · have := sAdd_go l ids (ids.length + l.length) (by omega) hl (by omega) ht l.length k 0 ids (by omega) (by omega) (by omega)
    rw [Int.natCast_zero, List.drop_zero] at this
    rw [this, if_pos ht]
  · obtain ⟨k, rfl⟩ : ∃ m, k = m + 1 + 1 := ⟨k - 2, by omega⟩
    have f0 := fuelN ids.length (ids.length + l.length) (by omega)
    have f00 := put_fuel ids.length ids.length (by omega)
    have htf : togV l ids = false := by simpa using ht
    simp only [spec_AddToStage.l0, spec_AddToStage.j1]
    rw [sTog_eq (k + 1) l ids (by omega) (by omega) (by omega), Option.bind_some, htf]; simp

theorem has_go (xs : List Int) (n : Int) (hn : xs.length ≤ 9223372036854775807) : ∀ (d k : Nat) (i : Nat), i + d = xs.length → d < k → spec_l6Has.l0 k xs n (i : Int) = some (decide (n ∈ xs.drop i)) := by
  intro d
  induction d with
  | zero =>
    intro k i hi hk
    obtain ⟨k, rfl⟩ : ∃ m, k = m + 1 := ⟨k - 1, by omega⟩
    simp only [spec_l6Has.l0]
    rw [if_neg (by omega), List.drop_of_length_le (by omega)]; simp
  | succ d ih =>
    intro k i hi hk
    obtain ⟨k, rfl⟩ : ∃ m, k = m + 1 := ⟨k - 1, by omega⟩
    simp only [spec_l6Has.l0]
    rw [if_pos (by omega), if_pos (by omega), rd_get _ _ (by omega), wsucc (show i < xs.length by omega) hn, ih k (i + 1) (by omega) (by omega), drop_cons xs i (by omega)]
    by_cases h : xs[i] = n
    · rw [if_pos h]; simp only [List.mem_cons, h, true_or, decide_true]
    · rw [if_neg h]; simp only [List.mem_cons, Ne.symm h, false_or]
theorem has_eq (k : Nat) (l : List Int) (n : Int) (hk : l.length < k) (hn : l.length ≤ 9223372036854775807) : spec_l6Has.f k l n = some (decide (n ∈ l)) := by
  unfold spec_l6Has.f
  have := has_go l n hn l.length k 0 (by omega) hk
  rw [Int.natCast_zero] at this
  rw [this]; rfl

theorem put_mem_iff (ids : List Int) (x y : Int) : y ∈ putV ids x ↔ y = x ∨ y ∈ ids := by
  unfold putV putAt
  split
  · rename_i h
    have hx := List.mem_of_getElem? h
    exact ⟨fun hy => .inr hy, fun hy => hy.elim (fun e => e ▸ hx) id⟩
  · have e : ids = ids.take (posV x ids) ++ ids.drop (posV x ids) := (List.take_append_drop _ _).symm
    constructor
    · intro hy
      rcases List.mem_append.1 hy with hy | hy
      · exact .inr (List.mem_of_mem_take hy)
      · rcases List.mem_cons.1 hy with hy | hy
        · exact .inl hy
        · exact .inr (List.mem_of_mem_drop hy)
    · intro hy
      rcases hy with hy | hy
      · exact List.mem_append_right _ (List.mem_cons.2 (.inl hy))
      · rw [e] at hy
        rcases List.mem_append.1 hy with hy | hy
        · exact List.mem_append_left _ hy
        · exact List.mem_append_right _ (List.mem_cons_of_mem _ hy)
theorem foldP_mem : ∀ (s d : List Int) (y : Int), y ∈ s.foldl putV d ↔ y ∈ s ∨ y ∈ d
  | [], d, y => by simp
  | x :: s, d, y => by rw [List.foldl_cons, foldP_mem s, put_mem_iff, List.mem_cons]; exact ⟨fun h => by rcases h with h | h | h <;> simp [h], fun h => by rcases h with (h | h) | h <;> simp [h]⟩
theorem foldP_length : ∀ (s d : List Int), (s.foldl putV d).length ≤ d.length + s.length
  | [], d => by simp
  | x :: s, d => by
    have h1 := foldP_length s (putV d x)
    have h2 := putV_length d x
    rw [List.foldl_cons, List.length_cons]; omega
theorem sCover_in (s : List Int) (hs : s.length ≤ 1048576) : ∀ (d k j : Nat) (dn : List Int), j + d = s.length → 2 * d + dn.length + 20 < k → dn.length + d ≤ 1048576 → spec_CoverOf.l1 k s dn (j : Int) = some ((s.drop j).foldl putV dn) := by
  intro d
  induction d with
  | zero =>
    intro k j dn hj hk hd
    obtain ⟨k, rfl⟩ : ∃ m, k = m + 1 := ⟨k - 1, by omega⟩
    simp only [spec_CoverOf.l1]
    rw [if_neg (by omega), List.drop_of_length_le (by omega)]; rfl
  | succ d ih =>
    intro k j dn hj hk hd
    obtain ⟨k, rfl⟩ : ∃ m, k = m + 1 := ⟨k - 1, by omega⟩
    have w1 : wrap64 ((j : Int) + 1) = ((j + 1 : Nat) : Int) := by unfold wrap64; omega
    have hp := putV_length dn s[j]
    simp only [spec_CoverOf.l1]
    rw [if_pos (by omega), if_pos (by omega), rd_get _ _ (by omega), sPut_eq k dn _ (by omega) (by omega), Option.bind_some, drop_cons s j (by omega), List.foldl_cons, w1]
    exact ih k (j + 1) _ (by omega) (by omega) (by omega)
theorem sCover_go (l : List S50) (ha : areV l = true) (hl : l.length ≤ 12) : ∀ (d k i : Nat) (out : List (List Int)) (dn : List Int), i + d = l.length → d + 900 < k → (∀ s ∈ out, s.length ≤ 13) → out.length ≤ i → dn.length ≤ 13 * i → (∀ x, x ∈ dn ↔ coverB out x = true) →
    spec_CoverOf.l0 k l out dn (i : Int) = some ((l.drop i).foldl (stepC l) out) := by
  intro d
  induction d with
  | zero =>
    intro k i out dn hi hk hs ho hd hm
    obtain ⟨k, rfl⟩ : ∃ m, k = m + 1 := ⟨k - 1, by omega⟩
    simp only [spec_CoverOf.l0]
    rw [if_neg (by omega), List.drop_of_length_le (by omega)]; rfl
  | succ d ih =>
    intro k i out dn hi hk hs ho hd hm
    obtain ⟨k, rfl⟩ : ∃ m, k = m + 1 := ⟨k - 1, by omega⟩
    have w1 : wrap64 ((i : Int) + 1) = ((i + 1 : Nat) : Int) := by unfold wrap64; omega
    have hq := Nat.mul_le_mul (show 1 + l.length + 1 ≤ 14 by omega) (show 1 + l.length + 5 ≤ 18 by omega)
    have hst := stepC_rows l out l[i] 13 (by omega) hs
    simp only [spec_CoverOf.l0]
    rw [if_pos (by omega), if_pos (by omega), sAre_eq k l (by omega) (by omega), ha, Option.bind_some, if_pos rfl, rdI_get l i (by omega), has_eq k dn _ (by omega) (by omega), Option.bind_some, drop_cons l i (by omega), List.foldl_cons]
    by_cases hc : coverB out l[i].f0 = true
    · have e : stepC l out l[i] = out := by unfold stepC; rw [if_pos hc]
      rw [if_pos (decide_eq_true ((hm _).2 hc)), e, w1]
      exact ih k (i + 1) out dn (by omega) (by omega) hs (by omega) (by omega) hm
    · have e : stepC l out l[i] = out ++ [addV l [l[i].f0]] := by unfold stepC; rw [if_neg hc]
      have hal := addV_length l [l[i].f0]
      rw [List.length_singleton] at hal
      have h5 : out.length < 5864062014805 := by omega
      rw [e] at hst
      have hin := sCover_in (addV l [l[i].f0]) (by omega) (addV l [l[i].f0]).length k 0 dn (by omega) (by omega) (by omega)
      rw [Int.natCast_zero, List.drop_zero] at hin
      rw [if_neg (by rw [decide_eq_false (fun h => hc ((hm _).1 h))]; decide), sAdd_eq k l [l[i].f0] (by rw [List.length_singleton]; omega) (by omega) (by simp), Option.bind_some, if_pos h5, hin, Option.bind_some, e, w1]
      have hfl := foldP_length (addV l [l[i].f0]) dn
      refine ih k (i + 1) _ _ (by omega) (by omega) hst (by simp; omega) (by omega) (fun x => ?_)
      rw [foldP_mem, hm]
      unfold coverB
      rw [List.any_append, Bool.or_eq_true]
      simp only [List.any_cons, List.any_nil, Bool.or_false, decide_eq_true_eq]
      exact ⟨fun h => h.elim .inr .inl, fun h => h.elim .inr .inl⟩
theorem sCover_eq (k : Nat) (l : List S50) (hk : l.length + 1000 < k) (hn : l.length ≤ 1048576) : spec_CoverOf.f k l = some (coverV l) := by
  unfold spec_CoverOf.f coverV
  by_cases ha : areV l = true
  · have hl : l.length ≤ 12 := by unfold areV at ha; rw [Bool.and_eq_true, decide_eq_true_eq] at ha; exact ha.1
    rw [if_pos ha]
    have := sCover_go l ha hl l.length k 0 [] [] (by omega) (by omega) (by simp) (by simp) (by simp) (fun x => by simp [coverB])
    rw [Int.natCast_zero, List.drop_zero] at this
    exact this
  · rw [if_neg ha]
    obtain ⟨k, rfl⟩ : ∃ m, k = m + 1 := ⟨k - 1, by omega⟩
    simp only [Bool.not_eq_true] at ha
    simp only [spec_CoverOf.l0]
    by_cases h0 : (0 : Int) < (l.length : Int)
    · rw [if_pos h0, if_pos (Int.le_refl _), sAre_eq k l (by omega) (by omega), ha, Option.bind_some, if_neg (by decide)]
    · rw [if_neg h0]

theorem iAdd_go (l : List S50) (N : Nat) (hN : N ≤ 1099511627) (hl : l.length ≤ 1048576) : ∀ (d k i : Nat) (out : List Int), togV l out = true → i + d = l.length → out.length + d ≤ N → d + (N + 1) * (N + 5) + l.length + N + 70 < k →
    impl_AddToStage.l0 k l out l (l.length : Int) (i : Int) = some ((l.drop i).foldl (stepA l) out) := by
  intro d
  induction d with
  | zero =>
    intro k i out ht hi ho hk
    obtain ⟨k, rfl⟩ : ∃ m, k = m + 1 := ⟨k - 1, by omega⟩
    simp only [impl_AddToStage.l0]
    rw [if_neg (by omega), List.drop_of_length_le (by omega)]; rfl
  | succ d ih =>
    intro k i out ht hi ho hk
    obtain ⟨k, rfl⟩ : ∃ m, k = m + 1 := ⟨k - 1, by omega⟩
    have f1 := fuelN out.length N (by omega)
    have hp := putV_length out l[i].f0
    have f2 := put_fuel out.length _ hp
    have ha := togV_asc l out ht
    simp only [impl_AddToStage.l0]
    rw [if_pos (by omega), if_pos (by omega), if_pos (by omega), rdI_get l i (by omega), contains_eq k out _ (by omega) (by omega), Option.bind_some, wsucc (show i < l.length by omega) (by omega), drop_cons l i (by omega), List.foldl_cons]
    by_cases hm : l[i].f0 ∈ out
    · have e : stepA l out l[i] = out := by unfold stepA; rw [put_mem out _ ha hm, if_pos ht]
      rw [if_pos (decide_eq_true hm), e, ih k (i + 1) _ ht (by omega) (by omega) (by omega)]
    · rw [if_neg (by rw [decide_eq_false hm]; decide), ins_eq k out _ ha (by omega) (by omega) hm, Option.bind_some, iTog_eq k l _ (by omega) (by omega) (by omega), Option.bind_some]
      by_cases h : togV l (putV out l[i].f0) = true
      · have e : stepA l out l[i] = putV out l[i].f0 := by unfold stepA; rw [if_pos h]
        rw [if_pos h, e, ih k (i + 1) _ h (by omega) (by omega) (by omega)]
      · have e : stepA l out l[i] = out := by unfold stepA; rw [if_neg h]
        rw [if_neg h, e, ih k (i + 1) _ ht (by omega) (by omega) (by omega)]
theorem iAdd_eq (k : Nat) (l : List S50) (ids : List Int) (hk : (ids.length + l.length + 1) * (ids.length + l.length + 5) + 4 * l.length + ids.length + 71 < k) (hl : l.length ≤ 1048576) (hn : ids.length ≤ 1048576) : impl_AddToStage.f k l ids = some (addV l ids) := by
  have f0 := fuelN ids.length (ids.length + l.length) (by omega)
  have f00 := put_fuel ids.length ids.length (by omega)
  unfold impl_AddToStage.f addV slices_Clone_int_int.f
  rw [if_pos (by omega), Option.bind_some, iTog_eq k l ids (by omega) (by omega) (by omega), Option.bind_some]
  by_cases ht : togV l ids = true
  · have := iAdd_go l (ids.length + l.length) (by omega) hl l.length k 0 ids ht (by omega) (by omega) (by omega)
    rw [Int.natCast_zero, List.drop_zero] at this
    rw [if_pos ht, this, if_pos ht]
  · rw [if_neg ht, if_neg ht]

theorem iCover_go (l : List S50) (hl : l.length ≤ 12) : ∀ (d k i : Nat) (out : List (List Int)), i + d = l.length → d + 500 < k → (∀ s ∈ out, s.length ≤ 13) → out.length ≤ i → impl_CoverOf.l0 k l out l (l.length : Int) (i : Int) = some ((l.drop i).foldl (stepC l) out) := by
  intro d
  induction d with
  | zero =>
    intro k i out hi hk hs ho
    obtain ⟨k, rfl⟩ : ∃ m, k = m + 1 := ⟨k - 1, by omega⟩
    simp only [impl_CoverOf.l0]
    rw [if_neg (by omega), List.drop_of_length_le (by omega)]; rfl
  | succ d ih =>
    intro k i out hi hk hs ho
    obtain ⟨k, rfl⟩ : ∃ m, k = m + 1 := ⟨k - 1, by omega⟩
    have w1 : wrap64 ((i : Int) + 1) = ((i + 1 : Nat) : Int) := by unfold wrap64; omega
    have hq := Nat.mul_le_mul (show 1 + l.length + 1 ≤ 14 by omega) (show 1 + l.length + 5 ≤ 18 by omega)
    have hst := stepC_rows l out l[i] 13 (by omega) hs
    simp only [impl_CoverOf.l0]
    rw [if_pos (by omega), if_pos (by omega), if_pos (by omega), rdI_get l i (by omega), cov_eq 13 k out _ (by omega) (by omega) hs, Option.bind_some, drop_cons l i (by omega), List.foldl_cons]
    by_cases hc : coverB out l[i].f0 = true
    · have e : stepC l out l[i] = out := by unfold stepC; rw [if_pos hc]
      rw [if_pos hc, e, w1]
      exact ih k (i + 1) out (by omega) (by omega) hs (by omega)
    · have e : stepC l out l[i] = out ++ [addV l [l[i].f0]] := by unfold stepC; rw [if_neg hc]
      rw [e] at hst
      have h5 : out.length < 5864062014805 := by omega
      rw [if_neg hc, iAdd_eq k l [l[i].f0] (by rw [List.length_singleton]; omega) (by omega) (by simp), Option.bind_some, if_pos h5, e, w1]
      exact ih k (i + 1) _ (by omega) (by omega) hst (by simp; omega)
theorem iCover_eq (k : Nat) (l : List S50) (hk : l.length + 600 < k) (hn : l.length ≤ 1048576) : impl_CoverOf.f k l = some (coverV l) := by
  unfold impl_CoverOf.f coverV
  rw [Option.bind_some, iAre_eq k l (by omega) (by omega), Option.bind_some]
  by_cases ha : areV l = true
  · have hl : l.length ≤ 12 := by unfold areV at ha; rw [Bool.and_eq_true, decide_eq_true_eq] at ha; exact ha.1
    rw [if_pos ha, if_pos ha]
    have := iCover_go l hl l.length k 0 [] (by omega) (by omega) (by simp) (by simp)
    rw [Int.natCast_zero, List.drop_zero] at this
    exact this
  · rw [if_neg ha, if_neg ha]

/-- The law's path as the program's. -/
def cvP (x : S69) : S50 := ⟨x.f0, x.f1, x.f2, x.f3⟩
theorem rdL_get (xs : List S69) (i : Nat) (h : i < xs.length) : rd_T69 xs (i : Int) = xs[i] := by
  unfold rd_T69; rw [Int.toNat_natCast, List.getD_eq_getElem?_getD, List.getElem?_eq_getElem h]; rfl
theorem toPathS_go (xs : List S69) (hn : xs.length ≤ 9223372036854775807) : ∀ (d k : Nat) (ys : List S50) (i : Nat), ys.length = xs.length → i + d = xs.length → d < k →
    laws_toPathS.l0 k xs ys (i : Int) = some (ys.take i ++ (xs.drop i).map cvP) := by
  intro d
  induction d with
  | zero =>
    intro k ys i hl hi hk
    obtain ⟨k, rfl⟩ : ∃ m, k = m + 1 := ⟨k - 1, by omega⟩
    simp only [laws_toPathS.l0]
    rw [if_neg (by omega), List.take_of_length_le (by omega), List.drop_of_length_le (by omega)]; simp
  | succ d ih =>
    intro k ys i hl hi hk
    obtain ⟨k, rfl⟩ : ∃ m, k = m + 1 := ⟨k - 1, by omega⟩
    simp only [laws_toPathS.l0, laws_toPath.f]
    rw [if_pos (by omega), if_pos (by omega), Option.bind_some, if_pos (by omega), wsucc (show i < xs.length by omega) hn, ih k _ (i + 1) (by simpa using hl) (by omega) (by omega), Int.toNat_natCast, set_take _ _ _ (by omega), rdL_get _ _ (by omega), List.append_assoc, drop_cons xs i (by omega)]
    rfl
theorem toPathS_eq (k : Nat) (l : List S69) (hk : l.length < k) (hn : l.length ≤ 8796093022208) : laws_toPathS.f k l = some (l.map cvP) := by
  unfold laws_toPathS.f
  rw [if_pos (by omega), if_pos (by omega)]
  have := toPathS_go l (by omega) l.length k (List.replicate ((l.length : Int)).toNat z50) 0 (by simp) (by omega) (by omega)
  rw [Int.natCast_zero] at this
  rw [this]; simp
theorem szPathS_eq (l : List S69) (hn : l.length ≤ 8796093022208) : laws_szPathS.f l 1048576 = some (if l.length ≤ 1048576 then 1048576 - (l.length : Int) else -1) := by
  unfold laws_szPathS.f
  have w : wrap64 (1048576 - (l.length : Int)) = 1048576 - l.length := by unfold wrap64; omega
  rw [w]
  by_cases h : l.length ≤ 1048576
  · rw [if_neg (by omega), if_pos h]
  · rw [if_pos (by omega), if_neg h]
theorem eqPath_self (a b c d : Int) : laws_eqPath.f a b c d a b c d = some true := by unfold laws_eqPath.f; simp
theorem eqPathS_go (xs : List S50) (hn : xs.length ≤ 9223372036854775807) : ∀ (d k : Nat) (i : Nat), i + d = xs.length → d < k → laws_eqPathS.l0 k xs xs (i : Int) = some true := by
  intro d
  induction d with
  | zero =>
    intro k i hi hk
    obtain ⟨k, rfl⟩ : ∃ m, k = m + 1 := ⟨k - 1, by omega⟩
    simp only [laws_eqPathS.l0]
    rw [if_neg (by omega)]
  | succ d ih =>
    intro k i hi hk
    obtain ⟨k, rfl⟩ : ∃ m, k = m + 1 := ⟨k - 1, by omega⟩
    simp only [laws_eqPathS.l0]
    rw [if_pos (by omega), if_pos (by omega), if_pos (by omega), eqPath_self, Option.bind_some, if_pos rfl, wsucc (show i < xs.length by omega) hn, ih k (i + 1) (by omega) (by omega)]
theorem eqPathS_self (k : Nat) (l : List S50) (hk : l.length < k) (hn : l.length ≤ 9223372036854775807) : laws_eqPathS.f k l l = some true := by
  unfold laws_eqPathS.f
  rw [if_pos rfl]
  have := eqPathS_go l hn l.length k 0 (by omega) hk
  rw [Int.natCast_zero] at this
  exact this

theorem markP_go : ∀ (d k : Nat) (xs : List S50) (m : Int) (i : Nat), i + d = xs.length → d < k → 0 ≤ m → m + 4 * d ≤ 9223372036854775807 → xs.length ≤ 1099511627776 → ∃ ys, laws_markPathS.l0 k xs m (i : Int) = some (m + 4 * (d : Int), ys) := by
  intro d
  induction d with
  | zero =>
    intro k xs m i hi hk h0 hm hn
    obtain ⟨k, rfl⟩ : ∃ m, k = m + 1 := ⟨k - 1, by omega⟩
    simp only [laws_markPathS.l0]
    rw [if_neg (by omega)]
    exact ⟨xs, by congr 2; omega⟩
  | succ d ih =>
    intro k xs m i hi hk h0 hm hn
    obtain ⟨k, rfl⟩ : ∃ m, k = m + 1 := ⟨k - 1, by omega⟩
    simp only [laws_markPathS.l0]
    have e : wrap64 ((wrap64 ((wrap64 ((wrap64 (m + 1)) + 1)) + 1)) + 1) = m + 4 := by unfold wrap64; omega
    rw [if_pos (by omega), if_pos (by omega), Option.bind_some, Option.bind_some, Option.bind_some, e, wsucc (show i < xs.length by omega) (by omega)]
    suffices H : ∀ zs : List S50, zs.length = xs.length → ∃ ys, laws_markPathS.l0 k zs (m + 4) ((i + 1 : Nat) : Int) = some (m + 4 * ((d + 1 : Nat) : Int), ys) from H _ (by simp)
    intro zs hz
    obtain ⟨ys, h⟩ := ih k zs (m + 4) (i + 1) (by omega) (by omega) (by omega) (by omega) (by omega)
    exact ⟨ys, by rw [h]; congr 2; omega⟩
theorem markP_eq (k : Nat) (l : List S50) (hk : l.length < k) (hn : l.length ≤ 1099511627776) : ∃ ys, laws_markPathS.f k l 1 = some (1 + 4 * (l.length : Int), ys) := by
  unfold laws_markPathS.f
  have := markP_go l.length k l 1 0 (by omega) hk (by omega) (by omega) hn
  rwa [Int.natCast_zero] at this

theorem rdR_get (xs : List (List Int)) (i : Nat) (h : i < xs.length) : rd_L3 xs (i : Int) = xs[i] := by
  unfold rd_L3; rw [Int.toNat_natCast, List.getD_eq_getElem?_getD, List.getElem?_eq_getElem h]; rfl

theorem laws_eqIntS_go (xs ys : List Int) (hl : xs.length = ys.length) (hn : xs.length ≤ 9223372036854775807) : ∀ (d k : Nat) (i : Nat), i + d = xs.length → d < k →
    laws_eqIntS.l0 k xs ys (i : Int) = some (decide (xs.drop i = ys.drop i)) := by
  intro d
  induction d with
  | zero =>
    intro k i hi hk
    obtain ⟨k, rfl⟩ : ∃ m, k = m + 1 := ⟨k - 1, by omega⟩
    simp only [laws_eqIntS.l0]
    rw [if_neg (by omega), List.drop_of_length_le (by omega), List.drop_of_length_le (by omega)]; rfl
  | succ d ih =>
    intro k i hi hk
    obtain ⟨k, rfl⟩ : ∃ m, k = m + 1 := ⟨k - 1, by omega⟩
    simp only [laws_eqIntS.l0]
    rw [if_pos (by omega), if_pos (by omega), if_pos (by omega), wsucc (show i < xs.length by omega) hn, ih k (i + 1) (by omega) (by omega), rd_get _ _ (by omega), rd_get _ _ (by omega), drop_cons xs i (by omega), drop_cons ys i (by omega)]
    split
    · rename_i h; simp only [List.cons.injEq, h, true_and]
    · rename_i h; simp only [List.cons.injEq, h, false_and, decide_false]
theorem laws_eqIntS_eq (k : Nat) (a b : List Int) (hk : a.length < k) (hn : a.length ≤ 9223372036854775807) : laws_eqIntS.f k a b = some (decide (a = b)) := by
  unfold laws_eqIntS.f
  by_cases h : a.length = b.length
  · rw [if_pos (by omega)]
    have := laws_eqIntS_go a b h hn a.length k 0 (by omega) hk
    rw [Int.natCast_zero] at this
    rw [this]; rfl
  · rw [if_neg (by omega)]; congr 1; symm; rw [decide_eq_false_iff_not]; intro e; exact h (by rw [e])

theorem eqRows_go (M : Nat) (xs : List (List Int)) (hM : M ≤ 1099511627776) (hn : xs.length ≤ 9223372036854775807) (hs : ∀ s ∈ xs, s.length ≤ M) : ∀ (d k i : Nat), i + d = xs.length → d + M < k → laws_eqIntSS.l0 k xs xs (i : Int) = some true := by
  intro d
  induction d with
  | zero =>
    intro k i hi hk
    obtain ⟨k, rfl⟩ : ∃ m, k = m + 1 := ⟨k - 1, by omega⟩
    simp only [laws_eqIntSS.l0]
    rw [if_neg (by omega)]
  | succ d ih =>
    intro k i hi hk
    obtain ⟨k, rfl⟩ : ∃ m, k = m + 1 := ⟨k - 1, by omega⟩
    have hsi := hs xs[i] (List.getElem_mem _)
    simp only [laws_eqIntSS.l0]
    rw [if_pos (by omega), if_pos (by omega), if_pos (by omega), rdR_get xs i (by omega), laws_eqIntS_eq k xs[i] xs[i] (by omega) (by omega), Option.bind_some, decide_eq_true rfl, if_pos rfl, wsucc (show i < xs.length by omega) hn, ih k (i + 1) (by omega) (by omega)]
theorem eqRows_self (M k : Nat) (l : List (List Int)) (hM : M ≤ 1099511627776) (hk : l.length + M < k) (hn : l.length ≤ 1099511627776) (hs : ∀ s ∈ l, s.length ≤ M) : laws_eqIntSS.f k l l = some true := by
  unfold laws_eqIntSS.f
  rw [if_pos rfl]
  have := eqRows_go M l hM (by omega) hs l.length k 0 (by omega) (by omega)
  rw [Int.natCast_zero] at this
  exact this

def markIntL (n : Nat) (m : Int) : List Int := (List.range n).map fun (j : Nat) => m + (j : Int)
theorem markIntS_go (m : Int) (h0 : 0 ≤ m) (n : Nat) (hm : m + n ≤ 9223372036854775807) : ∀ (d k : Nat) (ys : List Int) (i : Nat), ys.length = n → ys.take i = markIntL i m → i + d = n → d < k →
    laws_markIntS.l0 k ys (m + i) (i : Int) = some (m + n, markIntL n m) := by
  intro d
  induction d with
  | zero =>
    intro k ys i hl ht hi hk
    obtain ⟨k, rfl⟩ : ∃ m, k = m + 1 := ⟨k - 1, by omega⟩
    simp only [laws_markIntS.l0]
    obtain rfl : i = n := by omega
    rw [if_neg (by omega), ← ht, List.take_of_length_le (by omega)]
  | succ d ih =>
    intro k ys i hl ht hi hk
    obtain ⟨k, rfl⟩ : ∃ m, k = m + 1 := ⟨k - 1, by omega⟩
    simp only [laws_markIntS.l0]
    rw [if_pos (by omega), if_pos (by omega), wsucc (show i < n by omega) (by omega), Int.toNat_natCast]
    have e : wrap64 (m + (i : Int) + 1) = m + ((i + 1 : Nat) : Int) := by unfold wrap64; omega
    rw [e]
    refine ih k _ (i + 1) (by simpa using hl) ?_ (by omega) (by omega)
    rw [set_take _ _ _ (by omega), ht]; unfold markIntL
    rw [List.range_succ, List.map_append]; rfl
theorem markIntS_eq (k : Nat) (l : List Int) (m : Int) (h0 : 0 ≤ m) (hm : m + l.length ≤ 9223372036854775807) (hk : l.length < k) : laws_markIntS.f k l m = some (m + l.length, markIntL l.length m) := by
  unfold laws_markIntS.f
  have := markIntS_go m h0 l.length hm l.length k l 0 rfl (by simp [markIntL]) (by omega) hk
  rw [Int.natCast_zero, Int.add_zero] at this
  exact this

theorem markIntL_length (n : Nat) (m : Int) : (markIntL n m).length = n := by simp [markIntL]
theorem heldIntS_go (m : Int) (h0 : 0 ≤ m) (n : Nat) (hm : m + n ≤ 9223372036854775807) : ∀ (d k : Nat) (i : Nat), i + d = n → d < k →
    laws_heldIntS.l0 k (markIntL n m) (m + i) (i : Int) = some (m + n) := by
  intro d
  induction d with
  | zero =>
    intro k i hi hk
    obtain ⟨k, rfl⟩ : ∃ m, k = m + 1 := ⟨k - 1, by omega⟩
    simp only [laws_heldIntS.l0]
    obtain rfl : i = n := by omega
    rw [if_neg (by rw [markIntL_length]; omega)]
  | succ d ih =>
    intro k i hi hk
    obtain ⟨k, rfl⟩ : ∃ m, k = m + 1 := ⟨k - 1, by omega⟩
    simp only [laws_heldIntS.l0]
    have hl := markIntL_length n m
    have e : wrap64 (m + (i : Int) + 1) = m + ((i + 1 : Nat) : Int) := by unfold wrap64; omega
    have hr : rd (markIntL n m) (i : Int) = m + (i : Int) := by
      rw [rd_get _ _ (by omega)]; simp [markIntL]
    rw [if_pos (by omega), if_pos (by omega), if_pos hr, wsucc (show i < n by omega) (by omega), e]
    exact ih k (i + 1) (by omega) (by omega)
theorem heldIntS_eq (k n : Nat) (m : Int) (h0 : 0 ≤ m) (hm : m + n ≤ 9223372036854775807) (hk : n < k) : laws_heldIntS.f k (markIntL n m) m = some (m + n) := by
  unfold laws_heldIntS.f
  have := heldIntS_go m h0 n hm n k 0 (by omega) hk
  rw [Int.natCast_zero, Int.add_zero] at this
  exact this

def totR (l : List (List Int)) : Int := l.foldr (fun s t => (s.length : Int) + t) 0
def markRows : List (List Int) → Int → List (List Int) | [], _ => [] | s :: r, a => markIntL s.length a :: markRows r (a + s.length)
theorem totR_nonneg : ∀ l : List (List Int), 0 ≤ totR l
  | [] => Int.le_refl _
  | s :: r => by have := totR_nonneg r; show 0 ≤ (s.length : Int) + totR r; omega
theorem totR_le (M : Nat) : ∀ l : List (List Int), (∀ s ∈ l, s.length ≤ M) → totR l ≤ (l.length : Int) * M
  | [], _ => by simp [totR]
  | s :: r, h => by
    have h1 := totR_le M r (fun x hx => h x (List.mem_cons_of_mem _ hx))
    have h2 := h s List.mem_cons_self
    have e : ((s :: r).length : Int) * M = M + (r.length : Int) * M := by rw [List.length_cons]; push_cast; rw [Int.add_mul]; omega
    show (s.length : Int) + totR r ≤ _
    omega
theorem getD_mid (pre r : List (List Int)) (s : List Int) : (pre ++ s :: r).getD pre.length [] = s := by
  rw [List.getD_eq_getElem?_getD, List.getElem?_append_right (Nat.le_refl _), Nat.sub_self]; rfl
theorem set_mid (pre r : List (List Int)) (s t : List Int) : (pre ++ s :: r).set pre.length t = pre ++ t :: r := by
  rw [List.set_append_right _ _ (Nat.le_refl _), Nat.sub_self]; rfl
theorem markSS_go (M : Nat) (hM : M ≤ 1048576) : ∀ (rest pre : List (List Int)) (a : Int) (k : Nat), (∀ s ∈ rest, s.length ≤ M) → rest.length + M + 1 < k → 0 ≤ a → a + totR rest ≤ 1099511627776 → pre.length + rest.length ≤ 1048576 →
    laws_markIntSS.l0 k (pre ++ rest) a (pre.length : Int) = some (a + totR rest, pre ++ markRows rest a) := by
  intro rest
  induction rest with
  | nil =>
    intro pre a k _ hk _ _ _
    obtain ⟨k, rfl⟩ : ∃ m, k = m + 1 := ⟨k - 1, by omega⟩
    simp only [laws_markIntSS.l0]
    rw [if_neg (by simp)]
    simp [totR, markRows]
  | cons s r ih =>
    intro pre a k hs hk h0 ha hl
    obtain ⟨k, rfl⟩ : ∃ m, k = m + 1 := ⟨k - 1, by omega⟩
    have hsl := hs s List.mem_cons_self
    have ht : totR (s :: r) = (s.length : Int) + totR r := rfl
    have hr := totR_nonneg r
    rw [List.length_cons] at hk hl
    have nx := ih (pre ++ [markIntL s.length a]) (a + s.length) k (fun x hx => hs x (List.mem_cons_of_mem _ hx)) (by omega) (by omega) (by omega) (by simp; omega)
    rw [List.append_assoc, List.append_assoc] at nx
    simp only [laws_markIntSS.l0]
    rw [if_pos (by simp; omega), if_pos (by omega), Int.toNat_natCast, getD_mid, markIntS_eq k s a h0 (by omega) (by omega), Option.bind_some]
    dsimp only
    rw [set_mid, show wrap64 ((pre.length : Int) + 1) = ((pre ++ [markIntL s.length a]).length : Int) by simp only [List.length_append, List.length_singleton]; unfold wrap64; omega]
    rw [show pre ++ markIntL s.length a :: r = pre ++ ([markIntL s.length a] ++ r) from rfl, nx]
    congr 1
    rw [ht, Int.add_assoc]; rfl
theorem markSS_eq (M k : Nat) (l : List (List Int)) (hM : M ≤ 1000) (hk : l.length + M + 1 < k) (hs : ∀ s ∈ l, s.length ≤ M) (hl : l.length ≤ 1048576) : laws_markIntSS.f k l 1 = some (1 + totR l, markRows l 1) := by
  have ht := totR_le M l hs
  have hb : (l.length : Int) * M ≤ 1048576 * 1000 := Int.mul_le_mul (by omega) (by omega) (by omega) (by omega)
  have := markSS_go M (by omega) l [] 1 k hs hk (by omega) (by omega) (by simp; omega)
  unfold laws_markIntSS.f
  exact this
theorem markRows_length : ∀ (l : List (List Int)) (a : Int), (markRows l a).length = l.length
  | [], _ => rfl
  | s :: r, a => by simp [markRows, markRows_length r]
theorem heldSS_go (M : Nat) (hM : M ≤ 1048576) : ∀ (rest pre : List (List Int)) (a : Int) (k : Nat), (∀ s ∈ rest, s.length ≤ M) → rest.length + M + 1 < k → 0 ≤ a → a + totR rest ≤ 1099511627776 → pre.length + rest.length ≤ 1048576 →
    laws_heldIntSS.l0 k (pre ++ markRows rest a) a (pre.length : Int) = some (a + totR rest) := by
  intro rest
  induction rest with
  | nil =>
    intro pre a k _ hk _ _ _
    obtain ⟨k, rfl⟩ : ∃ m, k = m + 1 := ⟨k - 1, by omega⟩
    simp [laws_heldIntSS.l0, markRows, totR]
  | cons s r ih =>
    intro pre a k hs hk h0 ha hl
    obtain ⟨k, rfl⟩ : ∃ m, k = m + 1 := ⟨k - 1, by omega⟩
    have hsl := hs s List.mem_cons_self
    have ht : totR (s :: r) = (s.length : Int) + totR r := rfl
    have hr := totR_nonneg r
    rw [List.length_cons] at hk hl
    have nx := ih (pre ++ [markIntL s.length a]) (a + s.length) k (fun x hx => hs x (List.mem_cons_of_mem _ hx)) (by omega) (by omega) (by omega) (by simp; omega)
    rw [List.append_assoc] at nx
    have hg : rd_L3 (pre ++ markRows (s :: r) a) (pre.length : Int) = markIntL s.length a := by
      unfold rd_L3; rw [Int.toNat_natCast]; exact getD_mid _ _ _
    simp only [laws_heldIntSS.l0]
    rw [if_pos (by simp [markRows]; omega), if_pos (by omega), hg, heldIntS_eq k s.length a h0 (by omega) (by omega), Option.bind_some, if_neg (by omega), show wrap64 ((pre.length : Int) + 1) = ((pre ++ [markIntL s.length a]).length : Int) by simp only [List.length_append, List.length_singleton]; unfold wrap64; omega]
    rw [show pre ++ markRows (s :: r) a = pre ++ ([markIntL s.length a] ++ markRows r (a + s.length)) from rfl, nx, ht, Int.add_assoc]
theorem heldSS_eq (M k : Nat) (l : List (List Int)) (hM : M ≤ 1000) (hk : l.length + M + 1 < k) (hs : ∀ s ∈ l, s.length ≤ M) (hl : l.length ≤ 1048576) : laws_heldIntSS.f k (markRows l 1) 1 = some (1 + totR l) := by
  have ht := totR_le M l hs
  have hb : (l.length : Int) * M ≤ 1048576 * 1000 := Int.mul_le_mul (by omega) (by omega) (by omega) (by omega)
  have := heldSS_go M (by omega) l [] 1 k hs hk (by omega) (by omega) (by simp; omega)
  unfold laws_heldIntSS.f
  exact this

theorem FnExactCoverOf {l : List S69} (h : l.length * 32 ≤ 140737488351232) (_ : ∀ x ∈ l, (Lit.int .i64 x.f0).wf = true ∧ (Lit.int .i64 x.f1).wf = true ∧ (Lit.int .i64 x.f2).wf = true ∧ (Lit.int .i64 x.f3).wf = true) : ∃ k, (true : Bool) = true ∧ laws_FnExactCoverOf.Ok k l := by
  refine ⟨l.length + 2000, rfl, ?_⟩
  unfold laws_FnExactCoverOf.Ok
  rw [szPathS_eq l (by omega)]
  refine ⟨_, rfl, ?_⟩
  by_cases h1 : l.length ≤ 1048576
  · rw [if_pos h1]
    refine .inr ⟨by omega, ?_⟩
    have e : (l.map cvP).length = l.length := by simp
    obtain ⟨ys, hm⟩ := markP_eq (l.length + 2000) (l.map cvP) (by omega) (by omega)
    obtain ⟨r1, r2⟩ := coverV_rows (l.map cvP)
    have ht := totR_nonneg (coverV (l.map cvP))
    exact ⟨_, _, _, _, _, _, _, toPathS_eq _ l (by omega) (by omega), sCover_eq _ _ (by omega) (by omega), iCover_eq _ _ (by omega) (by omega), eqRows_self 13 _ _ (by omega) (by omega) (by omega) r1, eqPathS_self _ _ (by omega) (by omega), hm, by omega, markSS_eq 13 _ _ (by omega) (by omega) r1 (by omega), by omega, heldSS_eq 13 _ _ (by omega) (by omega) r1 (by omega)⟩
  · rw [if_neg h1]
    exact .inl (by omega)

end Go.Proofs.Ytldmhlpfkclclaa.Pure
