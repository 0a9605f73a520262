/- Our own text: the functions that FnStages reaches, and what a call of each comes to (written by wip/drive.py). Each theorem states its own conditions. -/
import Derived.Shelf.SlSortCmp.Whole1
import Derived.Shelf.SlSortCmp.NoneTotal
import Derived.Sort.LotA
import Derived.Lib.OwnBridge
import Derived.Shelf.SlLaysF
import Derived.Test.YtldmhlpfkclclaaQFnStagesx0
import Derived.Test.YtldmhlpfkclclaaQFnStagesx2
import Derived.Test.YtldmhlpfkclclaaQFnStagesx3
import Derived.Test.YtldmhlpfkclclaaQFnStagesx5
import Derived.Test.YtldmhlpfkclclaaQFnStagesx8
import Derived.Test.YtldmhlpfkclclaaQFnStagesx9
namespace Go.Proofs.Ytldmhlpfkclclaa.PFnStages
open Go.RowKit Go.Proofs.YtldmhlpfkclclaaW.PrintWords Go.Proofs.YtldmhlpfkclclaaW.PrintLast Go.Proofs.YtldmhlpfkclclaaW.PrintMore
attribute [local go_sem] max2_int min2_int max_two min_two max_three min_three max_four min_four   -- for this text's walks alone
set_option linter.unusedVariables false
set_option linter.unusedSimpArgs false

/-! ### impl_StagesOf: function 62 -/
mutual
def impl_StagesOf.l0 : Nat → List (S50) → List (List Int) → List Int → List (S50) → Int → Int → Option ((List (List Int)))
  | 0, _, _, _, _, _, _ => none
  | k + 1, x0, x3, x4, x23, x24, x25 => if x25 < x24 then (if 0 ≤ x25 then (if x25 < (x23.length : Int) then (impl_StagesOf.l1 k x0 x3 x4 x25 x23 x24 x25 x0 (x0.length : Int) 0 ((rd_T50 x23 x25).f0) ((rd_T50 x23 x25).f1) ((rd_T50 x23 x25).f2) ((rd_T50 x23 x25).f3)) else (none)) else (none)) else (impl_StagesOf.l2 k x0 x3 x4 1)
def impl_StagesOf.l1 : Nat → List (S50) → List (List Int) → List Int → Int → List (S50) → Int → Int → List (S50) → Int → Int → Int → Int → Int → Int → Option ((List (List Int)))
  | 0, _, _, _, _, _, _, _, _, _, _, _, _, _, _ => none
  | k + 1, x0, x3, x4, x5, x23, x24, x25, x30, x31, x32, x341000, x341001, x341002, x341003 => if x32 < x31 then (if 0 ≤ x32 then (if x32 < (x30.length : Int) then ((impl_Conflict.f k x341000 x341001 x341002 x341003 ((rd_T50 x30 x32).f0) ((rd_T50 x30 x32).f1) ((rd_T50 x30 x32).f2) ((rd_T50 x30 x32).f3)).bind fun t343 => (if t343 = true then (if 0 ≤ x5 then (if x5 < (x4.length : Int) then (impl_StagesOf.l1 k x0 x3 (x4.set (x5 : Int).toNat (Go.bits .or .i64 (rd x4 x5) (shl .i64 1 x32))) x5 x23 x24 x25 x30 x31 (wrap64 (x32 + 1)) x341000 x341001 x341002 x341003) else (none)) else (none)) else (impl_StagesOf.l1 k x0 x3 x4 x5 x23 x24 x25 x30 x31 (wrap64 (x32 + 1)) x341000 x341001 x341002 x341003))) else (none)) else (none)) else (impl_StagesOf.l0 k x0 x3 x4 x23 x24 (wrap64 (x25 + 1)))
def impl_StagesOf.l2 : Nat → List (S50) → List (List Int) → List Int → Int → Option ((List (List Int)))
  | 0, _, _, _, _ => none
  | k + 1, x0, x3, x4, x9 => if x9 < (shl .i64 1 (x0.length : Int)) then (impl_StagesOf.l3 k x0 x3 x4 x9 true (([] : List Int)) x0 (x0.length : Int) 0) else (some x3)
def impl_StagesOf.l3 : Nat → List (S50) → List (List Int) → List Int → Int → Bool → List Int → List (S50) → Int → Int → Option ((List (List Int)))
  | 0, _, _, _, _, _, _, _, _, _ => none
  | k + 1, x0, x3, x4, x9, x10, x11, x58, x59, x60 => if x60 < x59 then (if 0 ≤ x60 then (if x60 < (x58.length : Int) then (if x60 < (x4.length : Int) then (if (((Go.bits .and .i64 (shr .i64 x9 x60) 1) == 1) != ((Go.bits .and .i64 (rd x4 x60) x9) == 0)) = true then (impl_StagesOf.l2 k x0 x3 x4 (wrap64 (x9 + 1))) else (if (Go.bits .and .i64 (shr .i64 x9 x60) 1) = 1 then (if x11.length < 17592186044416 then (impl_StagesOf.l3 k x0 x3 x4 x9 x10 (x11 ++ [(rd_T50 x58 x60).f0]) x58 x59 (wrap64 (x60 + 1))) else (none)) else (impl_StagesOf.l3 k x0 x3 x4 x9 x10 x11 x58 x59 (wrap64 (x60 + 1))))) else (none)) else (none)) else (none)) else (if x10 = true then (if x3.length < 5864062014805 then (impl_StagesOf.l2 k x0 (x3 ++ [x11]) x4 (wrap64 (x9 + 1))) else (none)) else (impl_StagesOf.l2 k x0 x3 x4 (wrap64 (x9 + 1))))
end
def impl_StagesOf.u (k : Nat) (l0 : List (S50)) : Option ((List (List Int))) := (some (([] : List (List Int)) : List (List Int))).bind fun y332 => ((impl_ArePaths.f k l0).bind fun t335 => (if t335 = true then (if 0 ≤ (l0.length : Int) then (if ((l0.length : Int) : Int).toNat ≤ 35184372088832 then (impl_StagesOf.l0 k l0 y332 (List.replicate ((l0.length : Int) : Int).toNat 0) l0 (l0.length : Int) 0) else (none)) else (none)) else (some y332)))
theorem impl_StagesOf.mono_l : ∀ k, (∀ y0 y1 y2 y3 y4 y5, LeO (impl_StagesOf.l0 k y0 y1 y2 y3 y4 y5) (impl_StagesOf.l0 (k + 1) y0 y1 y2 y3 y4 y5)) ∧ (∀ y0 y1 y2 y3 y4 y5 y6 y7 y8 y9 y10 y11 y12 y13, LeO (impl_StagesOf.l1 k y0 y1 y2 y3 y4 y5 y6 y7 y8 y9 y10 y11 y12 y13) (impl_StagesOf.l1 (k + 1) y0 y1 y2 y3 y4 y5 y6 y7 y8 y9 y10 y11 y12 y13)) ∧ (∀ y0 y1 y2 y3, LeO (impl_StagesOf.l2 k y0 y1 y2 y3) (impl_StagesOf.l2 (k + 1) y0 y1 y2 y3)) ∧ (∀ y0 y1 y2 y3 y4 y5 y6 y7 y8, LeO (impl_StagesOf.l3 k y0 y1 y2 y3 y4 y5 y6 y7 y8) (impl_StagesOf.l3 (k + 1) y0 y1 y2 y3 y4 y5 y6 y7 y8))
  | 0 => ⟨fun _ _ _ _ _ _ r h => by simp [impl_StagesOf.l0] at h, fun _ _ _ _ _ _ _ _ _ _ _ _ _ _ r h => by simp [impl_StagesOf.l1] at h, fun _ _ _ _ r h => by simp [impl_StagesOf.l2] at h, fun _ _ _ _ _ _ _ _ _ r h => by simp [impl_StagesOf.l3] at h⟩
  | k + 1 => by
    obtain ⟨ih0, ih1, ih2, ih3⟩ := impl_StagesOf.mono_l k
    refine ⟨?_, ?_, ?_, ?_⟩
    · intro y0 y1 y2 y3 y4 y5
      unfold impl_StagesOf.l0
      repeat' first
      | (with_reducible exact ih0 _ _ _ _ _ _)
      | (with_reducible exact ih1 _ _ _ _ _ _ _ _ _ _ _ _ _ _)
      | (with_reducible exact ih2 _ _ _ _)
      | (with_reducible exact ih3 _ _ _ _ _ _ _ _ _)
      | (with_reducible exact impl_ArePaths.mono _ _)
      | (with_reducible exact impl_Conflict.mono _ _ _ _ _ _ _ _ _)
      | (with_reducible exact LeO.refl _)
      | (with_reducible exact LeO.none _)
      | (with_reducible refine LeO.ite ?_ ?_)
      | (with_reducible refine LeO.bind ?_ (fun _ => ?_))
      | exact ih0 _ _ _ _ _ _
      | exact ih1 _ _ _ _ _ _ _ _ _ _ _ _ _ _
      | exact ih2 _ _ _ _
      | exact ih3 _ _ _ _ _ _ _ _ _
      | exact impl_ArePaths.mono _ _
      | exact impl_Conflict.mono _ _ _ _ _ _ _ _ _
      | exact LeO.none _
      | refine LeO.ite ?_ ?_
      | refine LeO.bind ?_ (fun _ => ?_)
    · intro y0 y1 y2 y3 y4 y5 y6 y7 y8 y9 y10 y11 y12 y13
      unfold impl_StagesOf.l1
      repeat' first
      | (with_reducible exact ih0 _ _ _ _ _ _)
      | (with_reducible exact ih1 _ _ _ _ _ _ _ _ _ _ _ _ _ _)
      | (with_reducible exact ih2 _ _ _ _)
      | (with_reducible exact ih3 _ _ _ _ _ _ _ _ _)
      | (with_reducible exact impl_ArePaths.mono _ _)
      | (with_reducible exact impl_Conflict.mono _ _ _ _ _ _ _ _ _)
      | (with_reducible exact LeO.refl _)
      | (with_reducible exact LeO.none _)
      | (with_reducible refine LeO.ite ?_ ?_)
      | (with_reducible refine LeO.bind ?_ (fun _ => ?_))
      | exact ih0 _ _ _ _ _ _
      | exact ih1 _ _ _ _ _ _ _ _ _ _ _ _ _ _
      | exact ih2 _ _ _ _
      | exact ih3 _ _ _ _ _ _ _ _ _
      | exact impl_ArePaths.mono _ _
      | exact impl_Conflict.mono _ _ _ _ _ _ _ _ _
      | exact LeO.none _
      | refine LeO.ite ?_ ?_
      | refine LeO.bind ?_ (fun _ => ?_)
    · intro y0 y1 y2 y3
      unfold impl_StagesOf.l2
      repeat' first
      | (with_reducible exact ih0 _ _ _ _ _ _)
      | (with_reducible exact ih1 _ _ _ _ _ _ _ _ _ _ _ _ _ _)
      | (with_reducible exact ih2 _ _ _ _)
      | (with_reducible exact ih3 _ _ _ _ _ _ _ _ _)
      | (with_reducible exact impl_ArePaths.mono _ _)
      | (with_reducible exact impl_Conflict.mono _ _ _ _ _ _ _ _ _)
      | (with_reducible exact LeO.refl _)
      | (with_reducible exact LeO.none _)
      | (with_reducible refine LeO.ite ?_ ?_)
      | (with_reducible refine LeO.bind ?_ (fun _ => ?_))
      | exact ih0 _ _ _ _ _ _
      | exact ih1 _ _ _ _ _ _ _ _ _ _ _ _ _ _
      | exact ih2 _ _ _ _
      | exact ih3 _ _ _ _ _ _ _ _ _
      | exact impl_ArePaths.mono _ _
      | exact impl_Conflict.mono _ _ _ _ _ _ _ _ _
      | exact LeO.none _
      | refine LeO.ite ?_ ?_
      | refine LeO.bind ?_ (fun _ => ?_)
    · intro y0 y1 y2 y3 y4 y5 y6 y7 y8
      unfold impl_StagesOf.l3
      repeat' first
      | (with_reducible exact ih0 _ _ _ _ _ _)
      | (with_reducible exact ih1 _ _ _ _ _ _ _ _ _ _ _ _ _ _)
      | (with_reducible exact ih2 _ _ _ _)
      | (with_reducible exact ih3 _ _ _ _ _ _ _ _ _)
      | (with_reducible exact impl_ArePaths.mono _ _)
      | (with_reducible exact impl_Conflict.mono _ _ _ _ _ _ _ _ _)
      | (with_reducible exact LeO.refl _)
      | (with_reducible exact LeO.none _)
      | (with_reducible refine LeO.ite ?_ ?_)
      | (with_reducible refine LeO.bind ?_ (fun _ => ?_))
      | exact ih0 _ _ _ _ _ _
      | exact ih1 _ _ _ _ _ _ _ _ _ _ _ _ _ _
      | exact ih2 _ _ _ _
      | exact ih3 _ _ _ _ _ _ _ _ _
      | exact impl_ArePaths.mono _ _
      | exact impl_Conflict.mono _ _ _ _ _ _ _ _ _
      | exact LeO.none _
      | refine LeO.ite ?_ ?_
      | refine LeO.bind ?_ (fun _ => ?_)
theorem impl_StagesOf.umono : ∀ a0 k, LeO (impl_StagesOf.u k a0) (impl_StagesOf.u (k + 1) a0) := by
  intro a0 k
  obtain ⟨ih0, ih1, ih2, ih3⟩ := impl_StagesOf.mono_l k
  unfold impl_StagesOf.u
  repeat' first
      | (with_reducible exact ih0 _ _ _ _ _ _)
      | (with_reducible exact ih1 _ _ _ _ _ _ _ _ _ _ _ _ _ _)
      | (with_reducible exact ih2 _ _ _ _)
      | (with_reducible exact ih3 _ _ _ _ _ _ _ _ _)
      | (with_reducible exact impl_ArePaths.mono _ _)
      | (with_reducible exact impl_Conflict.mono _ _ _ _ _ _ _ _ _)
      | (with_reducible exact LeO.refl _)
      | (with_reducible exact LeO.none _)
      | (with_reducible refine LeO.ite ?_ ?_)
      | (with_reducible refine LeO.bind ?_ (fun _ => ?_))
      | exact ih0 _ _ _ _ _ _
      | exact ih1 _ _ _ _ _ _ _ _ _ _ _ _ _ _
      | exact ih2 _ _ _ _
      | exact ih3 _ _ _ _ _ _ _ _ _
      | exact impl_ArePaths.mono _ _
      | exact impl_Conflict.mono _ _ _ _ _ _ _ _ _
      | exact LeO.none _
      | refine LeO.ite ?_ ?_
      | refine LeO.bind ?_ (fun _ => ?_)
def impl_StagesOf.T12 : Bool × List (List Nat × List Nat) := (true, [([], []), ([], []), ([0, 1], [0, 1]), ([2], [2]), ([], []), ([4], [4]), ([3, 5], [3, 5]), ([0, 1, 0, 1, 2, 3, 4, 5, 6], [0, 1]), ([7, 6, 0, 1, 2, 3, 4, 5, 6], [6, 7])])
def impl_StagesOf.B12 : List Nat := [0, 0, 3, 7, 0, 16, 63, 127, 255]
theorem impl_StagesOf.tab12 : rtab .any (opsOf Try.f62 12) = impl_StagesOf.T12 := by kernel_rfl
theorem impl_StagesOf.bits12 : waitsOk impl_StagesOf.T12.2 impl_StagesOf.B12 = true := by kernel_rfl
/-! Rows in order: what impl.StagesOf sorts -/
def cmpV : List Int → List Int → Int
  | [], [] => 0
  | [], _ :: _ => -1
  | _ :: _, [] => 1
  | x :: a, y :: b => if x < y then -1 else if y < x then 1 else cmpV a b
theorem cmpI_eq (x y : Int) : cmp_Compare_int.f x y = some (if x < y then -1 else if y < x then 1 else 0) := by
  simp only [cmp_Compare_int.f, cmp_isNaN_int.f]
  simp
  split
  · rfl
  · split <;> simp_all
theorem cmpR_go (a b : List Int) (ha : a.length ≤ 9223372036854775807) (hb : b.length ≤ 9223372036854775807) : ∀ (d k i : Nat), i + d = a.length → d < k → i ≤ b.length → slices_Compare_int_int.l0 k a b a (a.length : Int) (i : Int) = some (cmpV (a.drop i) (b.drop i)) := by
  intro d
  induction d with
  | zero =>
    intro k i hi hk hbi
    obtain ⟨k, rfl⟩ : ∃ m, k = m + 1 := ⟨k - 1, by omega⟩
    simp only [slices_Compare_int_int.l0]
    rw [if_neg (by omega), List.drop_of_length_le (show a.length ≤ i by omega)]
    by_cases h : i < b.length
    · rw [if_pos (by omega), List.drop_eq_getElem_cons h]; rfl
    · rw [if_neg (by omega), List.drop_of_length_le (show b.length ≤ i by omega)]; rfl
  | succ d ih =>
    intro k i hi hk hbi
    obtain ⟨k, rfl⟩ : ∃ m, k = m + 1 := ⟨k - 1, by omega⟩
    simp only [slices_Compare_int_int.l0]
    have hia : i < a.length := by omega
    rw [if_pos (by omega), if_pos (by omega), if_pos (by omega), List.drop_eq_getElem_cons hia]
    by_cases h : i < b.length
    · have ra : rd a (i : Int) = a[i] := by unfold rd; rw [Int.toNat_natCast, List.getD_eq_getElem?_getD, List.getElem?_eq_getElem hia]; rfl
      have rb : rd b (i : Int) = b[i] := by unfold rd; rw [Int.toNat_natCast, List.getD_eq_getElem?_getD, List.getElem?_eq_getElem h]; rfl
      rw [if_neg (by omega), if_pos (by omega), ra, rb, cmpI_eq, Option.bind_some, List.drop_eq_getElem_cons h, show wrap64 ((i : Int) + 1) = ((i + 1 : Nat) : Int) by unfold wrap64; omega]
      simp only [cmpV]
      by_cases h1 : a[i] < b[i]
      · simp [h1]
      · by_cases h2 : b[i] < a[i]
        · simp [h1, h2]
        · simp only [h1, h2, if_false, if_true]
          exact ih k (i + 1) (by omega) (by omega) (by omega)
    · rw [if_pos (by omega), List.drop_of_length_le (show b.length ≤ i by omega)]; rfl
theorem cmpR_eq (a b : List Int) (ha : a.length ≤ 9223372036854775807) (hb : b.length ≤ 9223372036854775807) : slices_Compare_int_int.f (a.length + 1) a b = some (cmpV a b) := by
  have := cmpR_go a b ha hb a.length (a.length + 1) 0 (by omega) (by omega) (by omega)
  rw [Int.natCast_zero] at this
  exact this
section
open Go.Shelf Go.Lib Go.Sort
/-! ### Rows of a row, sorted -/
/-- A row with the value that stands for it and its place; it reads the same wherever block g alone was written. -/
structure SRow (W : World) (g : Nat) where
  row : List Int
  val : Value
  at_ : Nat
  good : ∃ A c, val = .slice A row.length c ∧ row.length ≤ c ∧ Kd.F (Kd.int .i64) W (fun k => k ≠ g ∧ k < W.heap.size) A row.length row
instance (W : World) (g : Nat) : Inhabited (SRow W g) := ⟨⟨[], .slice none 0 0, 0, none, 0, rfl, Nat.le_refl _, fun W' _ => ⟨rfl, by simp, fun h => absurd h (by simp)⟩⟩⟩
def SRow.enc {W : World} {g : Nat} (x : SRow W g) : Value := x.val
def SRow.cf {W : World} {g : Nat} (x y : SRow W g) : Int := cmpV x.row y.row
theorem SRow.one {W : World} {g : Nat} : OneCell (SRow.enc (W := W) (g := g)) := fun x => by
  obtain ⟨A, c, h, _⟩ := x.good
  show x.val.oneCell' = true
  rw [h]; rfl
/-- Another world that has W's blocks but g. -/
theorem SRow.reads {W W' : World} {g : Nat} (x : SRow W g) (h : ∀ k, k < W.heap.size → k ≠ g → W'.heap[k]? = W.heap[k]?) : ∃ A c, x.enc = .slice A x.row.length c ∧ x.row.length ≤ c ∧ (Kd.int .i64).C W' A x.row.length x.row := by
  obtain ⟨A, c, e, hl, hF⟩ := x.good
  exact ⟨A, c, e, hl, hF W' (fun k hk hlt => h k hlt hk.1)⟩
theorem sortWorld_keeps {α : Type} [Inhabited α] (enc : α → Value) (W : World) (g m : Nat) (d : Array α) (os : Array Obj) (k : Nat) (hk : k < W.heap.size) (hne : k ≠ g) : (sortWorld enc W g 0 m d os).heap[k]? = W.heap[k]? := by
  have h := below_putRow (enc := enc) (B := 0) (w0 := W) (w := W) (g := g) (q := m) (d := d) (Below.refl _ _) (Nat.zero_le _)
  have hs : k < (putRow enc (Sort.ahead W m) g 0 d).heap.size := Nat.lt_of_lt_of_le hk h.size
  show ((putRow enc (Sort.ahead W m) g 0 d).heap ++ os)[k]? = W.heap[k]?
  rw [Array.getElem?_append_left hs]
  simp [putRow, mapBlock, Sort.ahead, Array.getElem?_modify, Ne.symm hne]
theorem SRow.cmp {P : Program} {c97 : Nat} {W : World} {g n : Nat} (hc : ∀ A0 c0 l0 A1 c1 l1 w, (Kd.int .i64).C w A0 l0.length l0 → l0.length ≤ c0 → (Kd.int .i64).C w A1 l1.length l1 → l1.length ≤ c1 → Calls P c97 #[.slice A0 l0.length c0, .slice A1 l1.length c1] w fun e w' => e = .returned (.int .i64 (cmpV l0 l1)) ∧ Drawn0 w w') :
    CmpLays1 P c97 #[] (SRow.enc (W := W) (g := g)) SRow.cf g 0 n W := fun m os dk hs x y => by
  have keep : ∀ k, k < W.heap.size → k ≠ g → (sortWorld SRow.enc W g 0 m dk os).heap[k]? = W.heap[k]? := fun k hk hne => sortWorld_keeps _ W g m dk os k hk hne
  obtain ⟨A0, c0, e0, l0, r0⟩ := x.reads keep
  obtain ⟨A1, c1, e1, l1, r1⟩ := y.reads keep
  rw [e0, e1]
  refine (hc A0 c0 x.row A1 c1 y.row _ r0 l0 r1 l1).mono ?_
  rintro e w' ⟨rfl, ⟨q, rfl⟩⟩
  exact ⟨rfl, q, #[], by rw [grow_empty]⟩
theorem cmpV_refl : ∀ a, cmpV a a = 0
  | [] => rfl
  | x :: a => by simp [cmpV, cmpV_refl a]
theorem cmpV_cons {x y : Int} {a b : List Int} : cmpV (x :: a) (y :: b) < 0 ↔ x < y ∨ x = y ∧ cmpV a b < 0 := by
  simp only [cmpV]
  split
  · simp; omega
  · split
    · simp; omega
    · have : x = y := by omega
      simp [this]
theorem cmpV_trans : ∀ a b c, cmpV a b < 0 → cmpV b c < 0 → cmpV a c < 0
  | [], [], _, h, _ => by simp [cmpV] at h
  | [], _ :: _, [], _, h => by simp [cmpV] at h
  | [], _ :: _, _ :: _, _, _ => by simp [cmpV]
  | _ :: _, [], _, h, _ => by simp [cmpV] at h
  | _ :: _, _ :: _, [], _, h => by simp [cmpV] at h
  | x :: a, y :: b, z :: c, h, k => by
    rw [cmpV_cons] at h k ⊢
    rcases h with h | ⟨rfl, h⟩
    · rcases k with k | ⟨rfl, _⟩
      · exact .inl (by omega)
      · exact .inl h
    · rcases k with k | ⟨rfl, k⟩
      · exact .inl k
      · exact .inr ⟨rfl, cmpV_trans a b c h k⟩
theorem cmpV_ntrans : ∀ a b c, ¬ cmpV a b < 0 → ¬ cmpV b c < 0 → ¬ cmpV a c < 0
  | [], [], _, _, k => k
  | [], _ :: _, _, h, _ => by simp [cmpV] at h
  | _ :: _, _, [], _, _ => by simp [cmpV]
  | _ :: _, [], _ :: _, _, k => by simp [cmpV] at k
  | x :: a, y :: b, z :: c, h, k => by
    rw [cmpV_cons] at h k ⊢
    intro hh
    have h1 : ¬ x < y := fun q => h (.inl q)
    have k1 : ¬ y < z := fun q => k (.inl q)
    rcases hh with hh | ⟨rfl, hh⟩
    · omega
    · have e : x = y := by omega
      subst e
      exact cmpV_ntrans a b c (fun q => h (.inr ⟨rfl, q⟩)) (fun q => k (.inr ⟨rfl, q⟩)) hh
theorem SRow.swo {W : World} {g : Nat} : SWO (ltOf (SRow.cf (W := W) (g := g))) where
  irrefl x := by simp [ltOf, SRow.cf, cmpV_refl]
  trans x y z h k := by
    simp only [ltOf, decide_eq_true_eq] at *
    exact cmpV_trans _ _ _ h k
  ntrans x y z h k := by
    simp only [ltOf, decide_eq_false_iff_not] at *
    exact cmpV_ntrans _ _ _ h k
theorem cmpV_anti : ∀ a b, ¬ cmpV a b < 0 → ¬ cmpV b a < 0 → a = b
  | [], [], _, _ => rfl
  | [], _ :: _, h, _ => by simp [cmpV] at h
  | _ :: _, [], _, h => by simp [cmpV] at h
  | x :: a, y :: b, h, k => by
    rw [cmpV_cons] at h k
    have e : x = y := by
      have := fun q => h (.inl q)
      have := fun q => k (.inl q)
      omega
    subst e
    rw [cmpV_anti a b (fun q => h (.inr ⟨rfl, q⟩)) (fun q => k (.inr ⟨rfl, q⟩))]
/-- The rows in order. -/
def sortV (xs : List (List Int)) : List (List Int) := xs.mergeSort fun x y => !(decide (cmpV y x < 0))
theorem sortV_perm (xs : List (List Int)) : (sortV xs).Perm xs := List.mergeSort_perm _ _
theorem sortV_nil : sortV [] = [] := by simp [sortV]
theorem sort_one (xs ys : List (List Int)) (hp : ys.Perm xs) (hs : ys.Pairwise fun x y => ¬ cmpV y x < 0) : ys = sortV xs := by
  have hO : SWO (fun x y : List Int => decide (cmpV x y < 0)) := ⟨fun x => by simp [cmpV_refl], fun x y z h k => by simp only [decide_eq_true_eq] at *; exact cmpV_trans _ _ _ h k, fun x y z h k => by simp only [decide_eq_false_iff_not] at *; exact cmpV_ntrans _ _ _ h k⟩
  have := sorted_unique_holds (lt := fun x y : List Int => decide (cmpV x y < 0)) hO (fun x y h k => by simp only [decide_eq_false_iff_not] at h k; exact cmpV_anti x y h k) xs.toArray ys.toArray
    ⟨by simpa using hp.length_eq, fun i hi => by
      rcases hi with hi | hi
      · omega
      · have h1 : xs.length ≤ i := by simpa using hi
        rw [getElem!_neg _ _ (by simpa [hp.length_eq] using h1), getElem!_neg _ _ (by simpa using h1)], by
      have e1 : ys.toArray.extract 0 xs.toArray.size = ys.toArray := by rw [show xs.toArray.size = ys.toArray.size by simp [hp.length_eq]]; exact Array.extract_size
      rw [e1, Array.extract_size]; exact hp⟩
    (fun i j _ hij hj => by
      have hj' : j < ys.length := by have := hp.length_eq; simp at hj; omega
      have hi' : i < ys.length := by omega
      rw [getElem!_pos _ j (by simpa using hj'), getElem!_pos _ i (by simpa using hi')]
      simp only [decide_eq_false_iff_not]
      exact (List.pairwise_iff_getElem.1 hs) i j hi' hj' hij)
  exact this
section
variable {W : World} {base g n cap q e : Nat} {ok : Nat → Prop} {xs : List (List Int)}
theorem S_opened (h : Kd.S (Kd.slice q (Kd.int .i64)) e W base ok (.slice (some ⟨g, 0, none⟩) n cap) xs) : ∃ (f : Nat → Nat) (vs : List Value), ok g ∧ n = xs.length ∧ vs.length = xs.length ∧ W.ownsRow base e 1 (.slice (some ⟨g, 0, none⟩) n cap) n vs ∧
    ∀ j x v, xs[j]? = some x → vs[j]? = some v → Kd.R (Kd.int .i64) q W base (fun k => (ok k ∧ k ≠ g) ∧ f k = j) v x := by
  have hn := (Kd.S_reads' h).1
  obtain ⟨f, h0, inner, ho, hr⟩ := h
  rw [List.length_zipIdx, ← hn] at ho
  have hl : inner.length = n := by have h2 : inner.length = n * 1 := ho.1; omega
  refine ⟨f, inner, h0 g rfl, hn, by omega, ho, fun j x v hx hv => ?_⟩
  obtain ⟨v', hv', hR⟩ := hr.2 j (x, j) (by rw [List.getElem?_zipIdx, hx]; simp)
  have e1 : ((inner.drop (j * 1)).take 1) = [v] := by
    rw [Nat.mul_one]
    have hj : j < inner.length := (List.getElem?_eq_some_iff.1 hv).1
    rw [List.drop_eq_getElem_cons hj]
    have := (List.getElem?_eq_some_iff.1 hv).2
    simp [this]
  have e2 : [v] = [v'] := e1.symm.trans hv'
  obtain rfl : v = v' := by simpa using e2
  exact Kd.R_mono hR (fun k hk => ⟨⟨hk.1.1, fun h => hk.1.2 (by rw [h]; rfl)⟩, hk.2⟩)
theorem S_closed (f : Nat → Nat) (vs : List Value) (hg : ok g) (hown : W.ownsRow base e 1 (.slice (some ⟨g, 0, none⟩) n cap) n vs) (hn : n = xs.length) (hel : ∀ j x v, xs[j]? = some x → vs[j]? = some v → Kd.R (Kd.int .i64) q W base (fun k => (ok k ∧ k ≠ g) ∧ f k = j) v x) :
    Kd.S (Kd.slice q (Kd.int .i64)) e W base ok (.slice (some ⟨g, 0, none⟩) n cap) xs := by
  have hl : vs.length = n := by have := hown.1; simpa using this
  refine ⟨f, fun k hk => ?_, vs, by rw [List.length_zipIdx, ← hn]; exact hown, by rw [List.length_zipIdx]; show vs.length = xs.length * 1; omega, fun j p hp => ?_⟩
  · have : g = k := by simpa [Value.ownBlock] using hk
    rw [← this]; exact hg
  · rw [List.getElem?_zipIdx] at hp
    obtain ⟨x, hx, rfl⟩ := Option.map_eq_some_iff.1 hp
    have hj : j < vs.length := by have := (List.getElem?_eq_some_iff.1 hx).1; omega
    have hv : vs[j]? = some vs[j] := List.getElem?_eq_getElem hj
    refine ⟨vs[j], ?_, ?_⟩
    · show (vs.drop (j * 1)).take 1 = [vs[j]]
      rw [Nat.mul_one, List.drop_eq_getElem_cons hj]; rfl
    · refine Kd.R_mono (hel j x vs[j] hx hv) (fun k hk => ⟨⟨hk.1.1, fun h => hk.1.2 ?_⟩, ?_⟩)
      · simpa [Value.ownBlock] using h
      · rw [hk.2]; simp
end
/-- slices.SortFunc at a row of rows: it holds the rows in order; each row's blocks are its own, as before. -/
theorem sort_calls {P : Program} {ρ : Ren} {c97 : Nat} (L : SlLaysF.n6 P ρ) (eg : ∀ args w, (callFunc c97 args).run P w = .ok (.enter c97 args) w)
    (hc : ∀ A0 c0 l0 A1 c1 l1 w, (Kd.int .i64).C w A0 l0.length l0 → l0.length ≤ c0 → (Kd.int .i64).C w A1 l1.length l1 → l1.length ≤ c1 → Calls P c97 #[.slice A0 l0.length c0, .slice A1 l1.length c1] w fun e w' => e = .returned (.int .i64 (cmpV l0 l1)) ∧ Drawn0 w w')
    {w0 W : World} {base g n cap q e : Nat} {ok : Nat → Prop} {xs : List (List Int)} (h : Kd.S (Kd.slice q (Kd.int .i64)) e W base ok (.slice (some ⟨g, 0, none⟩) n cap) xs) (hsz : n < 4611686018427387904) (HB : Below base w0 W) :
    Calls P (ρ.f 6) #[.slice (some ⟨g, 0, none⟩) n cap, .func (.func c97) #[] #[]] W fun r w' => r = .returned (.tuple #[]) ∧ Kd.S (Kd.slice q (Kd.int .i64)) e w' base ok (.slice (some ⟨g, 0, none⟩) n cap) (sortV xs) ∧ Below base w0 w' := by
  obtain ⟨f, vs, hg, hn, hvl, hown, hel⟩ := S_opened h
  have gd : ∀ i, (hi : i < n) → ∃ A c, vs[i]'(by omega) = .slice A (xs[i]'(by omega)).length c ∧ (xs[i]'(by omega)).length ≤ c ∧ Kd.F (Kd.int .i64) W (fun k => k ≠ g ∧ k < W.heap.size) A (xs[i]'(by omega)).length (xs[i]'(by omega)) := fun i hi => by
    have hR := hel i _ _ (List.getElem?_eq_getElem (by omega)) (List.getElem?_eq_getElem (by omega))
    obtain ⟨A, c, e1⟩ := Kd.R_slice hR
    rw [e1] at hR
    exact ⟨A, c, e1, (Kd.R_reads' hR).2.1, Kd.F_mono (Kd.F_bound (Kd.R_F hR)) (fun k hk => ⟨hk.1.1.2, hk.2⟩)⟩
  obtain ⟨D, hD⟩ : ∃ D : List (SRow W g), D = List.ofFn fun i : Fin n => (⟨xs[i.1]'(by omega), vs[i.1]'(by omega), i.1, gd i.1 i.2⟩ : SRow W g) := ⟨_, rfl⟩
  have Dl : D.length = n := by rw [hD]; simp
  have Dg : ∀ i, (hi : i < D.length) → D[i].row = xs[i]'(by omega) ∧ D[i].val = vs[i]'(by omega) ∧ D[i].at_ = i := fun i hi => by subst hD; simp
  have Dv : D.map SRow.enc = vs := List.ext_getElem (by simp; omega) (fun i h1 h2 => by rw [List.getElem_map]; exact (Dg i (by simpa using h1)).2.1)
  have Dr : D.map SRow.row = xs := List.ext_getElem (by simp; omega) (fun i h1 h2 => by rw [List.getElem_map]; exact (Dg i (by simpa using h1)).1)
  have Da : D.map SRow.at_ = List.range n := List.ext_getElem (by simp; omega) (fun i h1 h2 => by rw [List.getElem_map, List.getElem_range]; exact (Dg i (by simpa using h1)).2.2)
  have hown' : W.ownsRow base e 1 (.slice (some ⟨g, 0, none⟩) n cap) n (D.map SRow.enc) := by rw [Dv]; exact hown
  obtain ⟨g', cap', e0, hbg, hgs, _, _, _, hH⟩ := holds_of_ownsRow hown' (by simp)
  obtain rfl : g = g' := by injection e0 with e1 _ _; injection e1 with e1; injection e1
  have hs := Any.slices_SortFunc L SRow.enc SRow.one SRow.cf SRow.swo c97 #[] g 0 cap D.toArray W eg (by
    have := SRow.cmp (P := P) (W := W) (g := g) (n := D.toArray.size) hc
    exact this) hH hgs (by simpa [Dl] using hsz)
  rw [show D.toArray.size = n by simp [Dl]] at hs
  refine hs.mono ?_
  rintro r w' ⟨rfl, d', m, os, ⟨hsz', _, hperm⟩, hsort, rfl⟩
  have hsz'' : d'.size = n := by rw [hsz']; simp [Dl]
  have e1 : d'.extract 0 n = d' := by rw [← hsz'']; exact Array.extract_size
  have e2 : D.toArray.extract 0 n = D.toArray := by rw [show n = D.toArray.size by simp [Dl]]; exact Array.extract_size
  rw [e1, e2] at hperm
  have hperm : d'.toList.Perm D := hperm
  have hrows : d'.toList.map SRow.row = sortV xs := by
    refine sort_one xs _ ?_ ?_
    · rw [← Dr]; exact hperm.map _
    · rw [List.pairwise_map, List.pairwise_iff_getElem]
      intro i j hi hj hij
      have hi' : i < d'.size := by simpa using hi
      have hj' : j < d'.size := by simpa using hj
      have h3 := hsort i j (Nat.zero_le _) hij (by omega)
      rw [getElem!_pos _ j hj', getElem!_pos _ i hi'] at h3
      exact of_decide_eq_false h3
  have hidx : (d'.toList.map SRow.at_).Perm (List.range n) := by rw [← Da]; exact hperm.map _
  have hnd : (d'.toList.map SRow.at_).Nodup := hidx.nodup_iff.2 List.nodup_range
  have keep : ∀ k, k < W.heap.size → k ≠ g → (sortWorld SRow.enc W g 0 m d' os).heap[k]? = W.heap[k]? := fun k hk hne => sortWorld_keeps _ W g m d' os k hk hne
  have hB2 : Below base w0 (putRow SRow.enc (Sort.ahead W m) g 0 d') := below_putRow HB hbg
  have hown2 : (putRow SRow.enc (Sort.ahead W m) g 0 d').ownsRow base e 1 (.slice (some ⟨g, 0, none⟩) n cap) n (d'.toList.map SRow.enc) := by
    have := ownsRow_putRow (q := m) (k := n) (ys := d'.toList) hown' (by simpa using hsz'') (Nat.le_refl _)
    rw [List.take_of_length_le (by simp; omega)] at this
    exact this
  have hgr : Below (putRow SRow.enc (Sort.ahead W m) g 0 d').heap.size (putRow SRow.enc (Sort.ahead W m) g 0 d') (sortWorld SRow.enc W g 0 m d' os) := ⟨rfl, rfl, rfl, by simp [sortWorld, grow], fun k hk => Array.getElem?_append_left hk⟩
  have hsz3 : W.heap.size ≤ (putRow SRow.enc (Sort.ahead W m) g 0 d').heap.size := by simp [putRow, mapBlock, Sort.ahead]
  have hB3 : Below base w0 (sortWorld SRow.enc W g 0 m d' os) := below_then hB2 (Nat.le_trans hbg (Nat.le_of_lt (Nat.lt_of_lt_of_le hgs hsz3))) hgr
  have hown3 : (sortWorld SRow.enc W g 0 m d' os).ownsRow base e 1 (.slice (some ⟨g, 0, none⟩) n cap) n (d'.toList.map SRow.enc) := pw_own_below hown2 hgr
  refine ⟨rfl, ?_, hB3⟩
  refine S_closed (fun k => (d'.toList.map SRow.at_).idxOf (f k)) _ hg hown3 (by rw [← hrows]; simp [hsz'']) (fun j x v hx hv => ?_)
  rw [← hrows, List.getElem?_map] at hx
  rw [List.getElem?_map] at hv
  obtain ⟨p, hp, rfl⟩ := Option.map_eq_some_iff.1 hx
  rw [hp] at hv
  obtain rfl : p.enc = v := by simpa using hv
  have hpm : p ∈ D := hperm.mem_iff.1 (List.mem_of_getElem? hp)
  obtain ⟨i, hi, rfl⟩ := List.getElem_of_mem hpm
  obtain ⟨r1, r2, r3⟩ := Dg i hi
  have hR := hel i _ _ (List.getElem?_eq_getElem (by omega)) (List.getElem?_eq_getElem (show i < vs.length by omega))
  show Kd.R (Kd.int .i64) q _ base _ D[i].val D[i].row
  rw [r1, r2]
  refine Kd.R_mono (Kd.R_step hR (fun k hk hlt => keep k hlt hk.1.2)) (fun k hk => ⟨hk.1, ?_⟩)
  have hj : j < (d'.toList.map SRow.at_).length := by rw [List.length_map]; exact (List.getElem?_eq_some_iff.1 hp).1
  have hat : (d'.toList.map SRow.at_)[j] = f k := by
    rw [List.getElem_map, (List.getElem?_eq_some_iff.1 hp).2, r3, hk.2]
  show (d'.toList.map SRow.at_).idxOf (f k) = j
  rw [← hat]
  exact hnd.idxOf_getElem j hj
def layS_ren : Go.Shelf.Ren := ⟨fun | 6 => 96 | 15 => 114 | 14 => 113 | 28 => 130 | 29 => 131 | 20 => 122 | 21 => 123 | 22 => 124 | 23 => 125 | 24 => 126 | 25 => 127 | 26 => 128 | 27 => 129 | 46 => 134 | 47 => 135 | 48 => 136 | 49 => 137 | 50 => 138 | 57 => 140 | n => n, fun | 22 => 38 | 24 => 29 | 25 => 86 | 3 => 3 | 39 => 100 | 0 => 0 | 53 => 113 | 55 => 115 | 4 => 4 | 46 => 107 | 45 => 106 | 50 => 90 | 5 => 5 | 9 => 9 | 66 => 116 | 70 => 120 | 76 => 123 | 77 => 124 | n => n, fun n => n⟩
theorem layS : Go.Proofs.SlLaysF.n6 Try.prog layS_ren := { mixed := by kernel_rfl, f6 := ⟨Try.f96.name, by kernel_rfl, Try.func96.trans (congrArg some (by kernel_rfl))⟩, f14 := ⟨Try.f113.name, by kernel_rfl, Try.func113.trans (congrArg some (by kernel_rfl))⟩, f15 := Try.func114.trans (congrArg some (by kernel_rfl)), f20 := ⟨Try.f122.name, by kernel_rfl, Try.func122.trans (congrArg some (by kernel_rfl))⟩, f21 := ⟨Try.f123.name, by kernel_rfl, Try.func123.trans (congrArg some (by kernel_rfl))⟩, f22 := ⟨Try.f124.name, by kernel_rfl, Try.func124.trans (congrArg some (by kernel_rfl))⟩, f23 := ⟨Try.f125.name, by kernel_rfl, Try.func125.trans (congrArg some (by kernel_rfl))⟩, f24 := ⟨Try.f126.name, by kernel_rfl, Try.func126.trans (congrArg some (by kernel_rfl))⟩, f25 := ⟨Try.f127.name, by kernel_rfl, Try.func127.trans (congrArg some (by kernel_rfl))⟩, f26 := ⟨Try.f128.name, by kernel_rfl, Try.func128.trans (congrArg some (by kernel_rfl))⟩, f27 := ⟨Try.f129.name, by kernel_rfl, Try.func129.trans (congrArg some (by kernel_rfl))⟩, f28 := Try.func130.trans (congrArg some (by kernel_rfl)), f29 := Try.func131.trans (congrArg some (by kernel_rfl)), f46 := ⟨Try.f134.name, by kernel_rfl, Try.func134.trans (congrArg some (by kernel_rfl))⟩, f47 := Try.func135.trans (congrArg some (by kernel_rfl)), f48 := Try.func136.trans (congrArg some (by kernel_rfl)), f49 := ⟨Try.f137.name, by kernel_rfl, Try.func137.trans (congrArg some (by kernel_rfl))⟩, f50 := ⟨Try.f138.name, by kernel_rfl, Try.func138.trans (congrArg some (by kernel_rfl))⟩, f57 := ⟨Try.f140.name, by kernel_rfl, Try.func140.trans (congrArg some (by kernel_rfl))⟩, t0 := Try.underlying0, a0 := Try.isAgg0, z0 := Try.sizeOf0, v0 := Try.zeroValue0, t3 := Try.underlying3, a3 := Try.isAgg3, z3 := Try.sizeOf3, v3 := Try.zeroValue3, t4 := Try.underlying4, a4 := Try.isAgg4, z4 := Try.sizeOf4, v4 := Try.zeroValue4, t5 := Try.underlying5, a5 := Try.isAgg5, z5 := Try.sizeOf5, v5 := Try.zeroValue5, t9 := Try.underlying9, a9 := Try.isAgg9, z9 := Try.sizeOf9, v9 := Try.zeroValue9, t22 := Try.underlying38, a22 := Try.isAgg38, z22 := Try.sizeOf38, v22 := Try.zeroValue38, a24 := Try.isAgg29, z24 := Try.sizeOf29, t25 := Try.underlying86, a25 := Try.isAgg86, z25 := Try.sizeOf86, v25 := Try.zeroValue86, t39 := Try.underlying100, a39 := Try.isAgg100, z39 := Try.sizeOf100, v39 := Try.zeroValue100, t45 := Try.underlying106, a45 := Try.isAgg106, z45 := Try.sizeOf106, v45 := Try.zeroValue106, t46 := Try.underlying107, a46 := Try.isAgg107, z46 := Try.sizeOf107, v46 := Try.zeroValue107, t50 := Try.underlying90, a50 := Try.isAgg90, z50 := Try.sizeOf90, v50 := Try.zeroValue90, t53 := Try.underlying113, a53 := Try.isAgg113, z53 := Try.sizeOf113, v53 := Try.zeroValue113, t55 := Try.underlying115, a55 := Try.isAgg115, z55 := Try.sizeOf115, v55 := Try.zeroValue115, t66 := Try.underlying116, a66 := Try.isAgg116, z66 := Try.sizeOf116, v66 := Try.zeroValue116, t70 := Try.underlying120, a70 := Try.isAgg120, z70 := Try.sizeOf120, v70 := Try.zeroValue120, t76 := Try.underlying123, a76 := Try.isAgg123, z76 := Try.sizeOf123, v76 := Try.zeroValue123, t77 := Try.underlying124, a77 := Try.isAgg124, z77 := Try.sizeOf124, v77 := Try.zeroValue124 }
theorem sort_at {w0 W : World} {base n cap : Nat} {A : Option Addr} {ok : Nat → Prop} {xs : List (List Int)} (h : Kd.S (Kd.slice 3 (Kd.int .i64)) 29 W base ok (.slice A n cap) xs) (hsz : n < 4611686018427387904) (HB : Below base w0 W) :
    Calls Try.prog 96 #[.slice A n cap, .func (.func 97) #[] #[]] W fun r w' => r = .returned (.tuple #[]) ∧ Kd.S (Kd.slice 3 (Kd.int .i64)) 29 w' base ok (.slice A n cap) (sortV xs) ∧ Below base w0 w' := by
  have hn := (Kd.S_reads' h).1
  by_cases hx : xs = []
  · subst hx
    obtain rfl : n = 0 := hn
    refine (AnyF.slices_SortFunc_none (P := Try.prog) (ρ := layS_ren) { layS with } A cap _ W).mono ?_
    rintro r w' ⟨rfl, rfl⟩
    exact ⟨rfl, by rw [sortV_nil]; exact h, HB⟩
  · obtain ⟨g, cap', e1, _⟩ := Kd.S_form h (by cases xs with | nil => exact absurd rfl hx | cons _ _ => simp)
    injection e1 with e1 e2 e3
    subst e1
    exact sort_calls layS (enters_of Try.func97 (by kernel_rfl) rfl) (fun A0 c0 l0 A1 c1 l1 w r0 h0 r1 h1 => slices_Compare_int_int.calls (l0.length + 1) A0 c0 l0 A1 c1 l1 _ w r0 h0 r1 h1 (cmpR_eq l0 l1 r0.2.1 r1.2.1)) h hsz HB
end
/-- What is handed back: the rows in order, forty at most. -/
def finV (t : List (List Int)) : List (List Int) := (sortV t).take 40
theorem finV_nil : finV [] = [] := by rw [finV, sortV_nil]; rfl
def impl_StagesOf.f (k : Nat) (l0 : List S50) : Option (List (List Int)) := (impl_StagesOf.u k l0).bind fun t => if t.length < 4611686018427387904 then some (finV t) else none
theorem impl_StagesOf.mono : ∀ a0 k, LeO (impl_StagesOf.f k a0) (impl_StagesOf.f (k + 1) a0) := fun a0 k => LeO.bind (impl_StagesOf.umono a0 k) (fun _ => LeO.refl _)
theorem impl_StagesOf.f_u {k : Nat} {l0 : List S50} {r0 : List (List Int)} (h : impl_StagesOf.f k l0 = some r0) : ∃ r, impl_StagesOf.u k l0 = some r ∧ r.length < 4611686018427387904 ∧ finV r = r0 := by
  obtain ⟨t, h1, h2⟩ := Option.bind_eq_some_iff.mp h
  by_cases c : t.length < 4611686018427387904
  · rw [if_pos c] at h2; exact ⟨t, h1, c, Option.some.inj h2⟩
  · rw [if_neg c] at h2; exact absurd h2 (by simp)
set_option maxHeartbeats 8000000 in
set_option maxRecDepth 100000 in
theorem impl_StagesOf.calls (k : Nat) (A0 : Option Addr) (c0 : Nat) (l0 : List (S50)) (r0 : List (List Int)) (w : World) (hr0 : Kd.C k50 w A0 l0.length l0) (hc0 : l0.length ≤ c0) (h : impl_StagesOf.f k l0 = some r0) :
    Calls Try.prog 62 #[.slice A0 l0.length c0] w fun e w' => ∃ v0_ : Value, e = .returned (v0_) ∧ Kd.S (Kd.slice 3 (Kd.int .i64)) 29 w' w.heap.size (fun _ => True) v0_ r0 ∧ Below w.heap.size w w' := by
 have h0_ := impl_StagesOf.f_u h
 clear h
 obtain ⟨r, h, hfl, rfl⟩ := h0_
 have HLen := Aside0.mk hfl
 clear hfl
 have hu50 := Try.underlying50
 have HR0 := Aside0.mk hr0
 have HC0 := Aside0.mk hc0
 clear hr0 hc0
 have HB := Aside0.mk (Below.refl w.heap.size w)
 have H : ((some (([] : List (List Int)) : List (List Int))).bind fun y332 => ((impl_ArePaths.f k l0).bind fun t335 => (if t335 = true then (if 0 ≤ (l0.length : Int) then (if ((l0.length : Int) : Int).toNat ≤ 35184372088832 then (impl_StagesOf.l0 k l0 y332 (List.replicate ((l0.length : Int) : Int).toNat 0) l0 (l0.length : Int) 0) else (none)) else (none)) else (some y332)))) = some r := h
 clear h
 obtain ⟨y332, hy332⟩ : ∃ y_ : List (List Int), y_ = (([] : List (List Int))) := ⟨_, rfl⟩
 replace H : ((impl_ArePaths.f k l0).bind fun t335 => (if t335 = true then (if 0 ≤ (l0.length : Int) then (if ((l0.length : Int) : Int).toNat ≤ 35184372088832 then (impl_StagesOf.l0 k l0 y332 (List.replicate ((l0.length : Int) : Int).toNat 0) l0 (l0.length : Int) 0) else (none)) else (none)) else (some y332))) = some r := by first | (rw [hy332]; with_reducible exact H) | (have H2_ := (Option.bind_some _ _).symm.trans H; rw [hy332]; with_reducible exact H2_) | (have H2_ := (Option.bind_some _ _).symm.trans H; with_reducible exact H2_) | with_reducible exact H | (rw [hy332]; exact H) | exact H
 have Ny332 := Aside0.mk hy332
 clear hy332
 replace H := Option.bind_eq_some_iff.mp H
 obtain ⟨t335, A20, H⟩ := H
 try dsimp only at H
 have A2 := Aside0.mk A20
 clear A20
 by_cases c3 : t335 = true
 rotate_left
 ·
  replace c3 := Bool.eq_false_iff.mpr c3
  subst c3
  have H1 : (some y332) = some r := by rw [if_neg (show ¬ (false = true) by decide)] at H; exact H
  clear H
  have H := H1
  clear H1
  obtain rfl := Option.some.inj H
  go_enter Try.func62, Try.ntmps62
  go_wp2_with (first | ((with_reducible refine gate_dst (N := 15) rfl ?_); refine Kd.S_lit (Kd.slice 3 (Kd.int .i64)) _ 29 ?hg (N := 15) ?hd (xs := ([] : List (List Int))) (inner := []) (ok := fun _ => True) (okp := fun _ => True) ?hr ?hp (fun _ hk => hk) trivial (Below.refl _ _) (Nat.le_refl _) (by simp) ?_; (case hd => rfl); (case hg => rfl); (case hr => first | (go_simp; done) | (go_simp; rfl)); (case hp => exact (Reps.none _ _)); intro v333 w66 ho67 hb hg_ hnew_; clear hg_ hnew_; (first | rw [← Ny332.out] at ho67 | (simp only [Int.reduceToNat] at ho67; rw [← Ny332.out] at ho67)); have n0_ := Aside0.mk (Kd.S_lower ho67 (below_size (by repeat (first | (with_reducible first | exact HB.out | apply below_alloc | apply pw_below_drewN | apply below_drew1) | exact HB.out)))); have n1_ := Aside0.mk (below_step (by repeat (first | (with_reducible first | exact HB.out | apply below_alloc | apply pw_below_drewN | apply below_drew1) | exact HB.out)) hb); clear HB; have HO334 := n0_; have HB := n1_; clear n0_ n1_; clear hb ho67) | ((with_reducible refine gate_callee (f := 64) rfl ?_); refine goesL_ (some 17) rfl rfl Try.func64 (by kernel_rfl) rfl #[.slice A0 l0.length c0] rfl (by (try simp only [List.map_toArray, List.map_cons, List.map_nil]); first | done | rfl | (simp only [List.length_drop, List.length_take]; rfl)) ?_; (with_reducible refine (impl_ArePaths.calls k _ _ l0 false _ ?side1 ?side2 A2.out).mono ?_); (case side1 => repeat (first | exact (Kd.C_below HR0.out HB.out) | (with_reducible refine Kd.C_alloc ?_ _) | (with_reducible refine Kd.C_drewN ?_ _) | (with_reducible refine Kd.C_drew ?_))); (case side2 => exact HC0.out); rintro e w68 ⟨rfl, hb⟩; refine ⟨_, rfl, ?_⟩; have n0_ := Aside0.mk (Kd.S_below (by (with_reducible repeat (first | apply Kd.S_alloc | apply Kd.S_drewN | apply Kd.S_drew)); exact HO334.out) hb); have n1_ := Aside0.mk (below_step (by repeat (first | (with_reducible first | exact HB.out | apply below_alloc | apply pw_below_drewN | apply below_drew1) | exact HB.out)) hb); clear HO334; clear HB; have HO334 := n0_; have HB := n1_; clear n0_ n1_; (try clear hb); (try clear hb2); (try clear hk); (try clear hi)))
  rw [show finV y332 = y332 from by rw [Ny332.out]; exact finV_nil]
  go_ret
  exact ⟨_, by first | rfl | (simp [errW_none, errW_some] <;> rfl) | (simp [*, errW_none, errW_some] <;> rfl), by (with_reducible repeat (first | apply Kd.S_alloc | apply Kd.S_drewN | apply Kd.S_drew)); exact HO334.out, by repeat (first | (with_reducible first | exact HB.out | apply below_alloc | apply pw_below_drewN | apply below_drew1) | exact HB.out)⟩
 subst c3
 have H1 : (if 0 ≤ (l0.length : Int) then (if ((l0.length : Int) : Int).toNat ≤ 35184372088832 then (impl_StagesOf.l0 k l0 y332 (List.replicate ((l0.length : Int) : Int).toNat 0) l0 (l0.length : Int) 0) else (none)) else (none)) = some r := by rw [if_pos rfl] at H; exact H
 clear H
 have H := H1
 clear H1
 by_cases c4 : 0 ≤ (l0.length : Int)
 rotate_left
 ·
  rw [if_neg c4] at H
  exact absurd H (by simp)
 rw [if_pos c4] at H
 have c4b0 := eq_true c4
 have c4b1 : decide (0 ≤ (l0.length : Int)) = true := decide_eq_true c4
 clear c4
 by_cases c5 : ((l0.length : Int) : Int).toNat ≤ 35184372088832
 rotate_left
 ·
  rw [if_neg c5] at H
  exact absurd H (by simp)
 rw [if_pos c5] at H
 have c5b0 := eq_true c5
 have c5b1 : decide (((l0.length : Int) : Int).toNat ≤ 35184372088832) = true := decide_eq_true c5
 clear c5
 obtain ⟨y336, hy336⟩ : ∃ y_ : List Int, y_ = (List.replicate ((l0.length : Int) : Int).toNat 0) := ⟨_, rfl⟩
 replace H : (impl_StagesOf.l0 k l0 y332 y336 l0 (l0.length : Int) 0) = some r := by first | (rw [hy336]; with_reducible exact H) | (have H2_ := (Option.bind_some _ _).symm.trans H; rw [hy336]; with_reducible exact H2_) | (have H2_ := (Option.bind_some _ _).symm.trans H; with_reducible exact H2_) | with_reducible exact H | (rw [hy336]; exact H) | exact H
 have Ny336 := Aside0.mk hy336
 clear hy336
 have H' := Aside0.mk H
 clear H
 go_enter Try.func62, Try.ntmps62
 go_wp2_with (first | ((with_reducible refine gate_dst (N := 15) rfl ?_); refine Kd.S_lit (Kd.slice 3 (Kd.int .i64)) _ 29 ?hg (N := 15) ?hd (xs := ([] : List (List Int))) (inner := []) (ok := fun _ => True) (okp := fun _ => True) ?hr ?hp (fun _ hk => hk) trivial (Below.refl _ _) (Nat.le_refl _) (by simp) ?_; (case hd => rfl); (case hg => rfl); (case hr => first | (go_simp; done) | (go_simp; rfl)); (case hp => exact (Reps.none _ _)); intro v333 w6 ho7 hb hg_ hnew_; clear hg_ hnew_; (first | rw [← Ny332.out] at ho7 | (simp only [Int.reduceToNat] at ho7; rw [← Ny332.out] at ho7)); have n0_ := Aside0.mk (Kd.S_lower ho7 (below_size (by repeat (first | (with_reducible first | exact HB.out | apply below_alloc | apply pw_below_drewN | apply below_drew1) | exact HB.out)))); have n1_ := Aside0.mk (below_step (by repeat (first | (with_reducible first | exact HB.out | apply below_alloc | apply pw_below_drewN | apply below_drew1) | exact HB.out)) hb); clear HB; have HO334 := n0_; have HB := n1_; clear n0_ n1_; clear hb ho7) | ((with_reducible refine gate_callee (f := 64) rfl ?_); refine goesL_ (some 17) rfl rfl Try.func64 (by kernel_rfl) rfl #[.slice A0 l0.length c0] rfl (by (try simp only [List.map_toArray, List.map_cons, List.map_nil]); first | done | rfl | (simp only [List.length_drop, List.length_take]; rfl)) ?_; (with_reducible refine (impl_ArePaths.calls k _ _ l0 true _ ?side1 ?side2 A2.out).mono ?_); (case side1 => repeat (first | exact (Kd.C_below HR0.out HB.out) | (with_reducible refine Kd.C_alloc ?_ _) | (with_reducible refine Kd.C_drewN ?_ _) | (with_reducible refine Kd.C_drew ?_))); (case side2 => exact HC0.out); rintro e w8 ⟨rfl, hb⟩; refine ⟨_, rfl, ?_⟩; have n0_ := Aside0.mk (Kd.S_below (by (with_reducible repeat (first | apply Kd.S_alloc | apply Kd.S_drewN | apply Kd.S_drew)); exact HO334.out) hb); have n1_ := Aside0.mk (below_step (by repeat (first | (with_reducible first | exact HB.out | apply below_alloc | apply pw_below_drewN | apply below_drew1) | exact HB.out)) hb); clear HO334; clear HB; have HO334 := n0_; have HB := n1_; clear n0_ n1_; (try clear hb); (try clear hb2); (try clear hk); (try clear hi)) | ((with_reducible refine gate_dst (N := 22) rfl ?_); refine Kd.R_make (Kd.int .i64) _ 3 rfl (N := 22) rfl 29 _ _ rfl (l0.length : Int) rfl rfl Try.underlying29 (.int .i64 0) 8 info3 rfl (by decide) (by omega) 0 (ok := fun _ => True) (okp := fun _ => True) rfl (fun _ hk => hk) trivial (of_decide_eq_true (by first | (with_reducible assumption) | assumption)) (Nat.le_trans (Nat.mul_le_mul_right _ (of_decide_eq_true (by first | (with_reducible assumption) | assumption) : (l0.length : Int).toNat ≤ 35184372088832)) (by omega)) (Below.refl _ _) (Nat.le_refl _) ?_; intro v337 w9 ho10 hb hg_ hnew_; clear hg_ hnew_; (first | rw [← Ny336.out] at ho10 | (simp only [Int.reduceToNat] at ho10; rw [← Ny336.out] at ho10)); have n0_ := Aside0.mk (Kd.S_elder' (by (with_reducible repeat (first | apply Kd.S_alloc | apply Kd.S_drewN | apply Kd.S_drew)); exact HO334.out) (Kd.R_base ho10) hb); have n1_ := Aside0.mk (Kd.R_lower ho10 (below_size (by repeat (first | (with_reducible first | exact HB.out | apply below_alloc | apply pw_below_drewN | apply below_drew1) | exact HB.out)))); have n2_ := Aside0.mk (below_step (by repeat (first | (with_reducible first | exact HB.out | apply below_alloc | apply pw_below_drewN | apply below_drew1) | exact HB.out)) hb); clear HO334; clear HB; have HO334 := n0_; have HO338 := n1_; have HB := n2_; clear n0_ n1_ n2_; clear hb ho10))
 go_loopg [25] k (fun kq v25 w' => ∃ (x4_1 : List Int) (x25_1 : Int), v25 = .int .i64 x25_1 ∧ Aside0 (impl_StagesOf.l0 kq l0 y332 x4_1 l0 (l0.length : Int) x25_1 = some r) ∧ Aside0 (kq ≤ k) ∧ Aside0 (Kd.S (Kd.slice 3 (Kd.int .i64)) 29 w' w.heap.size (fun k_ => some k_ ≠ (v337 : Value).ownBlock) v333 y332) ∧ Aside0 (Kd.R (Kd.int .i64) 3 w' w.heap.size (fun _ => True) v337 x4_1) ∧ Aside0 (Below w.heap.size w w'))
 case atStart => exact ⟨(y336), (0), (by first | rfl | (simp; done) | (simp [*]; done)), H', ⟨Nat.le_refl _⟩, ⟨by (with_reducible repeat (first | apply Kd.S_alloc | apply Kd.S_drewN | apply Kd.S_drew)); exact Kd.S_mono HO334.out (fun _ hk => hk.2)⟩, ⟨by (with_reducible repeat (first | apply Kd.R_alloc | apply Kd.R_drewN | apply Kd.R_drew)); exact HO338.out⟩, ⟨by repeat (first | (with_reducible first | exact HB.out | apply below_alloc | apply pw_below_drewN | apply below_drew1) | exact HB.out)⟩⟩
 case round =>
  clear H'
  try clear p2
  try clear c3
  try clear c4
  try clear c4b0
  try clear c4b1
  try clear c5
  try clear c5b0
  try clear c5b1
  try clear c6
  obtain ⟨x4_1, x25_1, rfl, HA, HK1, HO_3, HO_4, HB⟩ := hrel
  cases gk with
  | zero => exact absurd HA.out (by simp [impl_StagesOf.l0])
  | succ k1 =>
   have H := HA.out
   clear HA
   simp only [impl_StagesOf.l0] at H
   by_cases c11 : x25_1 < (l0.length : Int)
   ·
    rw [if_pos c11] at H
    have c11b0 : decide (x25_1 < (l0.length : Int)) = true := decide_eq_true c11
    clear c11
    by_cases c12 : 0 ≤ x25_1
    rotate_left
    ·
     rw [if_neg c12] at H
     exact absurd H (by simp)
    rw [if_pos c12] at H
    have c12b0 : decide (0 ≤ x25_1) = true := decide_eq_true c12
    clear c12
    by_cases c13 : x25_1 < (l0.length : Int)
    rotate_left
    ·
     rw [if_neg c13] at H
     exact absurd H (by simp)
    rw [if_pos c13] at H
    have c13b0 : decide (x25_1 < (l0.length : Int)) = true := decide_eq_true c13
    clear c13
    have H' := Aside0.mk H
    clear H
    have p339 : 0 ≤ (x25_1 : Int) := of_decide_eq_true (by first | (with_reducible assumption) | assumption)
    have q339 : x25_1 < (l0.length : Int) := of_decide_eq_true (by first | (with_reducible assumption) | assumption)
    obtain ⟨ad339, e339, hx339_0, hx339_1, hx339_2, hx339_3⟩ := at_T50 HR0.out x25_1 p339 q339
    cases e339
    replace hx339_0 := (HB.out.cell (World.block_lt_of_cell? w _ hx339_0)).trans hx339_0
    replace hx339_1 := (HB.out.cell (World.block_lt_of_cell? w _ hx339_1)).trans hx339_1
    replace hx339_2 := (HB.out.cell (World.block_lt_of_cell? w _ hx339_2)).trans hx339_2
    replace hx339_3 := (HB.out.cell (World.block_lt_of_cell? w _ hx339_3)).trans hx339_3
    replace p339 := eq_true p339
    replace q339 := eq_true q339
    go_wp2_with (first | ((with_reducible refine gate_dst (N := 6) rfl ?_); refine box_event ?hg (N := 6) ?hd (cs := #[.int .i64 0, .int .i64 0, .int .i64 0, .int .i64 0]) (t := 50) ?hr ?_; (case hd => rfl); (case hg => rfl); (case hr => first | (go_simp; done) | (go_simp; rfl)); intro gb340 hg w14 hbox hb; have n0_ := Aside0.mk (Kd.S_below (by (with_reducible repeat (first | apply Kd.S_alloc | apply Kd.S_drewN | apply Kd.S_drew)); exact HO_3.out) hb); have n1_ := Aside0.mk (Kd.R_below (by (with_reducible repeat (first | apply Kd.R_alloc | apply Kd.R_drewN | apply Kd.R_drew)); exact HO_4.out) hb); have n2_ := Aside0.mk (below_step (by repeat (first | (with_reducible first | exact HB.out | apply below_alloc | apply pw_below_drewN | apply below_drew1) | exact HB.out)) hb); have n3_ := Aside0.mk (hbox); have n4_ := Aside0.mk ((by rw [hg]; exact (below_size (by repeat (first | (with_reducible first | exact HB.out | apply below_alloc | apply pw_below_drewN | apply below_drew1) | exact HB.out))) : w.heap.size ≤ gb340)); have n5_ := Aside0.mk ((by rw [hg]; exact (below_size (by repeat (first | (with_reducible first | exact HB.out | apply below_alloc | apply pw_below_drewN | apply below_drew1) | exact HB.out))) : w.heap.size ≤ gb340)); clear HO_3; clear HO_4; clear HB; have HO_3 := n0_; have HO_4 := n1_; have HB := n2_; have BK340 := n3_; have GW340 := n4_; have GE340 := n5_; clear n0_ n1_ n2_ n3_ n4_ n5_; clear hb hbox hg; have hcz15_0 : w14.cell? ⟨gb340, 0, none⟩ = some (.int .i64 0) := (blk_cell BK340.out 0).trans rfl; have hcz15_1 : w14.cell? ⟨gb340, 1, none⟩ = some (.int .i64 0) := (blk_cell BK340.out 1).trans rfl; have hcz15_2 : w14.cell? ⟨gb340, 2, none⟩ = some (.int .i64 0) := (blk_cell BK340.out 2).trans rfl; have hcz15_3 : w14.cell? ⟨gb340, 3, none⟩ = some (.int .i64 0) := (blk_cell BK340.out 3).trans rfl; have hfz15_0 := blk_frozen BK340.out 0; have hfz15_1 := blk_frozen BK340.out 1; have hfz15_2 := blk_frozen BK340.out 2; have hfz15_3 := blk_frozen BK340.out 3))
    go_loopg [32] k1 (fun kq v32 w' => ∃ (x4_2 : List Int) (x32_2 : Int), v32 = .int .i64 x32_2 ∧ Aside0 (impl_StagesOf.l1 kq l0 y332 x4_2 x25_1 l0 (l0.length : Int) x25_1 l0 (l0.length : Int) x32_2 ((rd_T50 l0 x25_1).f0) ((rd_T50 l0 x25_1).f1) ((rd_T50 l0 x25_1).f2) ((rd_T50 l0 x25_1).f3) = some r) ∧ Aside0 (kq ≤ k1) ∧ Aside0 (Kd.S (Kd.slice 3 (Kd.int .i64)) 29 w' w.heap.size (fun k_ => some k_ ≠ (v337 : Value).ownBlock) v333 y332) ∧ Aside0 (Kd.R (Kd.int .i64) 3 w' w.heap.size (fun _ => True) v337 x4_2) ∧ Aside0 (w'.heap[gb340]? = some (.cells #[.int .i64 ((rd_T50 l0 x25_1).f0), .int .i64 ((rd_T50 l0 x25_1).f1), .int .i64 ((rd_T50 l0 x25_1).f2), .int .i64 ((rd_T50 l0 x25_1).f3)] 50 (0, 0))) ∧ Aside0 (Below w.heap.size w w'))
    case atStart => exact ⟨(x4_1), (0), (by first | rfl | (simp; done) | (simp [*]; done)), H', ⟨Nat.le_refl _⟩, ⟨by (with_reducible repeat (first | apply Kd.S_alloc | apply Kd.S_drewN | apply Kd.S_drew)); exact Kd.S_mono (Kd.S_far (p := ⟨gb340, 3, none⟩) (Kd.S_far (p := ⟨gb340, 2, none⟩) (Kd.S_far (p := ⟨gb340, 1, none⟩) (Kd.S_far (p := ⟨gb340, 0, none⟩) (Kd.S_types HO_3.out BK340.out (by decide)) (fun _ hk => hk.2) (.int .i64 ((rd_T50 l0 x25_1).f0))) (fun _ hk => hk.2) (.int .i64 ((rd_T50 l0 x25_1).f1))) (fun _ hk => hk.2) (.int .i64 ((rd_T50 l0 x25_1).f2))) (fun _ hk => hk.2) (.int .i64 ((rd_T50 l0 x25_1).f3))) (fun _ hk => hk.1)⟩, ⟨by (with_reducible repeat (first | apply Kd.R_alloc | apply Kd.R_drewN | apply Kd.R_drew)); exact Kd.R_mono (Kd.R_far (p := ⟨gb340, 3, none⟩) (Kd.R_far (p := ⟨gb340, 2, none⟩) (Kd.R_far (p := ⟨gb340, 1, none⟩) (Kd.R_far (p := ⟨gb340, 0, none⟩) (Kd.R_types HO_4.out BK340.out (by decide)) (fun _ hk => hk.2) (.int .i64 ((rd_T50 l0 x25_1).f0))) (fun _ hk => hk.2) (.int .i64 ((rd_T50 l0 x25_1).f1))) (fun _ hk => hk.2) (.int .i64 ((rd_T50 l0 x25_1).f2))) (fun _ hk => hk.2) (.int .i64 ((rd_T50 l0 x25_1).f3))) (fun _ hk => trivial)⟩, ⟨by (with_reducible repeat (first | refine blk_drewN ?_ _ | refine blk_drew ?_ | refine blk_alloc ?_ _)); refine blk_put (cs := #[.int .i64 ((rd_T50 l0 x25_1).f0), .int .i64 ((rd_T50 l0 x25_1).f1), .int .i64 ((rd_T50 l0 x25_1).f2), .int .i64 0]) ?_ 3 _ rfl; (with_reducible repeat (first | refine blk_drewN ?_ _ | refine blk_drew ?_ | refine blk_alloc ?_ _)); refine blk_put (cs := #[.int .i64 ((rd_T50 l0 x25_1).f0), .int .i64 ((rd_T50 l0 x25_1).f1), .int .i64 0, .int .i64 0]) ?_ 2 _ rfl; (with_reducible repeat (first | refine blk_drewN ?_ _ | refine blk_drew ?_ | refine blk_alloc ?_ _)); refine blk_put (cs := #[.int .i64 ((rd_T50 l0 x25_1).f0), .int .i64 0, .int .i64 0, .int .i64 0]) ?_ 1 _ rfl; (with_reducible repeat (first | refine blk_drewN ?_ _ | refine blk_drew ?_ | refine blk_alloc ?_ _)); refine blk_put (cs := #[.int .i64 0, .int .i64 0, .int .i64 0, .int .i64 0]) ?_ 0 _ rfl; (with_reducible repeat (first | refine blk_drewN ?_ _ | refine blk_drew ?_ | refine blk_alloc ?_ _)); exact BK340.out⟩, ⟨by repeat (first | (with_reducible first | exact HB.out | apply below_alloc | apply pw_below_drewN | apply below_drew1 | refine below_set ?_ GE340.out) | exact HB.out)⟩⟩
    case round =>
     clear H'
     try clear c1
     try clear p2
     try clear c3
     try clear p3
     try clear q3
     try clear hx3
     try clear c4
     try clear c4b0
     try clear c4b1
     try clear c5
     try clear c5b0
     try clear c5b1
     try clear c6
     try clear c11
     try clear c11b0
     try clear c12
     try clear c12b0
     try clear c13
     try clear c13b0
     try clear hcz15_0
     try clear hcz15_1
     try clear hcz15_2
     try clear hcz15_3
     try clear hfz15_0
     try clear hfz15_1
     try clear hfz15_2
     try clear hfz15_3
     try clear hx339_0
     try clear hx339_1
     try clear hx339_2
     try clear hx339_3
     try clear p2
     try clear p339
     try clear q339
     obtain ⟨x4_2, x32_2, rfl, HA, HK2, HO_3, HO_4, BK340, HB⟩ := hrel
     cases gk with
     | zero => exact absurd HA.out (by simp [impl_StagesOf.l1])
     | succ k2 =>
      have H := HA.out
      clear HA
      simp only [impl_StagesOf.l1] at H
      by_cases c16 : x32_2 < (l0.length : Int)
      rotate_left
      ·
       rw [if_neg c16] at H
       have c16b0 : decide (x32_2 < (l0.length : Int)) = false := decide_eq_false c16
       clear c16
       have H' := Aside0.mk H
       clear H
       go_wp2
       go_roundg k2
       case measure => have := HK1.out; have := HK2.out; omega
       case rel => exact ⟨(x4_2), (wrap64 (x25_1 + 1)), (by first | rfl | (simp; done) | (simp [*]; done)), H', ⟨by have := HK1.out; have := HK2.out; omega⟩, ⟨by (with_reducible repeat (first | apply Kd.S_alloc | apply Kd.S_drewN | apply Kd.S_drew)); exact HO_3.out⟩, ⟨by (with_reducible repeat (first | apply Kd.R_alloc | apply Kd.R_drewN | apply Kd.R_drew)); exact HO_4.out⟩, ⟨by repeat (first | (with_reducible first | exact HB.out | apply below_alloc | apply pw_below_drewN | apply below_drew1 | refine below_set ?_ GE340.out) | exact HB.out)⟩⟩
      rw [if_pos c16] at H
      have c16b0 : decide (x32_2 < (l0.length : Int)) = true := decide_eq_true c16
      clear c16
      by_cases c17 : 0 ≤ x32_2
      rotate_left
      ·
       rw [if_neg c17] at H
       exact absurd H (by simp)
      rw [if_pos c17] at H
      have c17b0 : decide (0 ≤ x32_2) = true := decide_eq_true c17
      clear c17
      by_cases c18 : x32_2 < (l0.length : Int)
      rotate_left
      ·
       rw [if_neg c18] at H
       exact absurd H (by simp)
      rw [if_pos c18] at H
      have c18b0 : decide (x32_2 < (l0.length : Int)) = true := decide_eq_true c18
      clear c18
      replace H := Option.bind_eq_some_iff.mp H
      obtain ⟨t343, A190, H⟩ := H
      try dsimp only at H
      have A19 := Aside0.mk A190
      clear A190
      by_cases c20 : t343 = true
      rotate_left
      ·
       replace c20 := Bool.eq_false_iff.mpr c20
       subst c20
       have H1 : (impl_StagesOf.l1 k2 l0 y332 x4_2 x25_1 l0 (l0.length : Int) x25_1 l0 (l0.length : Int) (wrap64 (x32_2 + 1)) ((rd_T50 l0 x25_1).f0) ((rd_T50 l0 x25_1).f1) ((rd_T50 l0 x25_1).f2) ((rd_T50 l0 x25_1).f3)) = some r := by rw [if_neg (show ¬ (false = true) by decide)] at H; exact H
       clear H
       have H := H1
       clear H1
       have H' := Aside0.mk H
       clear H
       have p341 : 0 ≤ (x32_2 : Int) := of_decide_eq_true (by first | (with_reducible assumption) | assumption)
       have q341 : x32_2 < (l0.length : Int) := of_decide_eq_true (by first | (with_reducible assumption) | assumption)
       obtain ⟨ad341, e341, hx341_0, hx341_1, hx341_2, hx341_3⟩ := at_T50 HR0.out x32_2 p341 q341
       obtain rfl : ad339 = ad341 := (by injection e341)
       replace hx341_0 := (HB.out.cell (World.block_lt_of_cell? w _ hx341_0)).trans hx341_0
       replace hx341_1 := (HB.out.cell (World.block_lt_of_cell? w _ hx341_1)).trans hx341_1
       replace hx341_2 := (HB.out.cell (World.block_lt_of_cell? w _ hx341_2)).trans hx341_2
       replace hx341_3 := (HB.out.cell (World.block_lt_of_cell? w _ hx341_3)).trans hx341_3
       replace p341 := eq_true p341
       replace q341 := eq_true q341
       go_wp2_with (first | ((with_reducible refine gate_dst (N := 8) rfl ?_); refine box_event ?hg (N := 8) ?hd (cs := #[.int .i64 0, .int .i64 0, .int .i64 0, .int .i64 0]) (t := 50) ?hr ?_; (case hd => rfl); (case hg => rfl); (case hr => first | (go_simp; done) | (go_simp; rfl)); intro gb342 hg w34 hbox hb; have n0_ := Aside0.mk (Kd.S_below (by (with_reducible repeat (first | apply Kd.S_alloc | apply Kd.S_drewN | apply Kd.S_drew)); exact HO_3.out) hb); have n1_ := Aside0.mk (Kd.R_below (by (with_reducible repeat (first | apply Kd.R_alloc | apply Kd.R_drewN | apply Kd.R_drew)); exact HO_4.out) hb); have n2_ := Aside0.mk (blk_below (g := gb340) (o := .cells #[.int .i64 ((rd_T50 l0 x25_1).f0), .int .i64 ((rd_T50 l0 x25_1).f1), .int .i64 ((rd_T50 l0 x25_1).f2), .int .i64 ((rd_T50 l0 x25_1).f3)] 50 (0, 0)) (by (with_reducible repeat (first | refine blk_drewN ?_ _ | refine blk_drew ?_ | refine blk_alloc ?_ _)); exact BK340.out) hb); have n3_ := Aside0.mk (below_step (by repeat (first | (with_reducible first | exact HB.out | apply below_alloc | apply pw_below_drewN | apply below_drew1 | refine below_set ?_ GE340.out) | exact HB.out)) hb); have n4_ := Aside0.mk (hbox); have n5_ := Aside0.mk ((by rw [hg]; exact (below_size (by repeat (first | (with_reducible first | exact HB.out | apply below_alloc | apply pw_below_drewN | apply below_drew1 | refine below_set ?_ GE340.out) | exact HB.out))) : w.heap.size ≤ gb342)); have n6_ := Aside0.mk ((by rw [hg]; exact (below_size (by repeat (first | (with_reducible first | exact HB.out | apply below_alloc | apply pw_below_drewN | apply below_drew1 | refine below_set ?_ GE340.out) | exact HB.out))) : w.heap.size ≤ gb342)); have n7_ := Aside0.mk ((by rw [hg]; exact Nat.ne_of_lt (blk_lt (g := gb340) (o := .cells #[.int .i64 ((rd_T50 l0 x25_1).f0), .int .i64 ((rd_T50 l0 x25_1).f1), .int .i64 ((rd_T50 l0 x25_1).f2), .int .i64 ((rd_T50 l0 x25_1).f3)] 50 (0, 0)) (by (with_reducible repeat (first | refine blk_drewN ?_ _ | refine blk_drew ?_ | refine blk_alloc ?_ _)); exact BK340.out)) : gb340 ≠ gb342)); have n8_ := Aside0.mk ((by rw [hg]; exact Nat.ne_of_gt (blk_lt (g := gb340) (o := .cells #[.int .i64 ((rd_T50 l0 x25_1).f0), .int .i64 ((rd_T50 l0 x25_1).f1), .int .i64 ((rd_T50 l0 x25_1).f2), .int .i64 ((rd_T50 l0 x25_1).f3)] 50 (0, 0)) (by (with_reducible repeat (first | refine blk_drewN ?_ _ | refine blk_drew ?_ | refine blk_alloc ?_ _)); exact BK340.out)) : gb342 ≠ gb340)); clear HO_3; clear HO_4; clear BK340; clear HB; have HO_3 := n0_; have HO_4 := n1_; have BK340 := n2_; have HB := n3_; have BK342 := n4_; have GW342 := n5_; have GE342 := n6_; have NB340_342 := n7_; have NB342_340 := n8_; clear n0_ n1_ n2_ n3_ n4_ n5_ n6_ n7_ n8_; clear hb hbox hg; have hnb35 := NB342_340.out; have hnc35 := NB340_342.out; have hcz36_0 : w34.cell? ⟨gb342, 0, none⟩ = some (.int .i64 0) := (blk_cell BK342.out 0).trans rfl; have hcz36_1 : w34.cell? ⟨gb342, 1, none⟩ = some (.int .i64 0) := (blk_cell BK342.out 1).trans rfl; have hcz36_2 : w34.cell? ⟨gb342, 2, none⟩ = some (.int .i64 0) := (blk_cell BK342.out 2).trans rfl; have hcz36_3 : w34.cell? ⟨gb342, 3, none⟩ = some (.int .i64 0) := (blk_cell BK342.out 3).trans rfl; have hfz36_0 := blk_frozen BK342.out 0; have hfz36_1 := blk_frozen BK342.out 1; have hfz36_2 := blk_frozen BK342.out 2; have hfz36_3 := blk_frozen BK342.out 3; have hcz37_0 : w34.cell? ⟨gb340, 0, none⟩ = some (.int .i64 ((rd_T50 l0 x25_1).f0)) := (blk_cell BK340.out 0).trans rfl; have hcz37_1 : w34.cell? ⟨gb340, 1, none⟩ = some (.int .i64 ((rd_T50 l0 x25_1).f1)) := (blk_cell BK340.out 1).trans rfl; have hcz37_2 : w34.cell? ⟨gb340, 2, none⟩ = some (.int .i64 ((rd_T50 l0 x25_1).f2)) := (blk_cell BK340.out 2).trans rfl; have hcz37_3 : w34.cell? ⟨gb340, 3, none⟩ = some (.int .i64 ((rd_T50 l0 x25_1).f3)) := (blk_cell BK340.out 3).trans rfl; have hfz37_0 := blk_frozen BK340.out 0; have hfz37_1 := blk_frozen BK340.out 1; have hfz37_2 := blk_frozen BK340.out 2; have hfz37_3 := blk_frozen BK340.out 3) | ((with_reducible refine gate_callee (f := 46) rfl ?_); refine goesL_ (some 39) rfl rfl Try.func46 (by kernel_rfl) rfl #[.agg #[.int .i64 ((rd_T50 l0 x25_1).f0), .int .i64 ((rd_T50 l0 x25_1).f1), .int .i64 ((rd_T50 l0 x25_1).f2), .int .i64 ((rd_T50 l0 x25_1).f3)], .agg #[.int .i64 ((rd_T50 l0 x32_2).f0), .int .i64 ((rd_T50 l0 x32_2).f1), .int .i64 ((rd_T50 l0 x32_2).f2), .int .i64 ((rd_T50 l0 x32_2).f3)]] rfl (by (try simp only [List.map_toArray, List.map_cons, List.map_nil]); first | done | rfl | (simp only [List.length_drop, List.length_take]; rfl)) ?_; (with_reducible refine (impl_Conflict.calls k2 ((rd_T50 l0 x25_1).f0) ((rd_T50 l0 x25_1).f1) ((rd_T50 l0 x25_1).f2) ((rd_T50 l0 x25_1).f3) ((rd_T50 l0 x32_2).f0) ((rd_T50 l0 x32_2).f1) ((rd_T50 l0 x32_2).f2) ((rd_T50 l0 x32_2).f3) false _ A19.out).mono ?_); rintro e w38 ⟨rfl, hb⟩; refine ⟨_, rfl, ?_⟩; have n0_ := Aside0.mk (Kd.S_below (by (with_reducible repeat (first | apply Kd.S_alloc | apply Kd.S_drewN | apply Kd.S_drew)); exact (Kd.S_mono (Kd.S_far (p := ⟨gb342, 3, none⟩) (Kd.S_far (p := ⟨gb342, 2, none⟩) (Kd.S_far (p := ⟨gb342, 1, none⟩) (Kd.S_far (p := ⟨gb342, 0, none⟩) (Kd.S_types HO_3.out BK342.out (by decide)) (fun _ hk => hk.2) (.int .i64 ((rd_T50 l0 x32_2).f0))) (fun _ hk => hk.2) (.int .i64 ((rd_T50 l0 x32_2).f1))) (fun _ hk => hk.2) (.int .i64 ((rd_T50 l0 x32_2).f2))) (fun _ hk => hk.2) (.int .i64 ((rd_T50 l0 x32_2).f3))) (fun _ h_ => h_.1))) hb); have n1_ := Aside0.mk (Kd.R_below (by (with_reducible repeat (first | apply Kd.R_alloc | apply Kd.R_drewN | apply Kd.R_drew)); exact (Kd.R_mono (Kd.R_far (p := ⟨gb342, 3, none⟩) (Kd.R_far (p := ⟨gb342, 2, none⟩) (Kd.R_far (p := ⟨gb342, 1, none⟩) (Kd.R_far (p := ⟨gb342, 0, none⟩) (Kd.R_types HO_4.out BK342.out (by decide)) (fun _ hk => hk.2) (.int .i64 ((rd_T50 l0 x32_2).f0))) (fun _ hk => hk.2) (.int .i64 ((rd_T50 l0 x32_2).f1))) (fun _ hk => hk.2) (.int .i64 ((rd_T50 l0 x32_2).f2))) (fun _ hk => hk.2) (.int .i64 ((rd_T50 l0 x32_2).f3))) (fun _ h_ => h_.1))) hb); have n2_ := Aside0.mk (blk_below (g := gb340) (o := .cells #[.int .i64 ((rd_T50 l0 x25_1).f0), .int .i64 ((rd_T50 l0 x25_1).f1), .int .i64 ((rd_T50 l0 x25_1).f2), .int .i64 ((rd_T50 l0 x25_1).f3)] 50 (0, 0)) (by (with_reducible repeat (first | refine blk_drewN ?_ _ | refine blk_drew ?_ | refine blk_alloc ?_ _)); refine blk_far ?_ NB340_342.out _; (with_reducible repeat (first | refine blk_drewN ?_ _ | refine blk_drew ?_ | refine blk_alloc ?_ _)); refine blk_far ?_ NB340_342.out _; (with_reducible repeat (first | refine blk_drewN ?_ _ | refine blk_drew ?_ | refine blk_alloc ?_ _)); refine blk_far ?_ NB340_342.out _; (with_reducible repeat (first | refine blk_drewN ?_ _ | refine blk_drew ?_ | refine blk_alloc ?_ _)); refine blk_far ?_ NB340_342.out _; (with_reducible repeat (first | refine blk_drewN ?_ _ | refine blk_drew ?_ | refine blk_alloc ?_ _)); exact BK340.out) hb); have n3_ := Aside0.mk (blk_below (g := gb342) (o := .cells #[.int .i64 ((rd_T50 l0 x32_2).f0), .int .i64 ((rd_T50 l0 x32_2).f1), .int .i64 ((rd_T50 l0 x32_2).f2), .int .i64 ((rd_T50 l0 x32_2).f3)] 50 (0, 0)) (by (with_reducible repeat (first | refine blk_drewN ?_ _ | refine blk_drew ?_ | refine blk_alloc ?_ _)); refine blk_put (cs := #[.int .i64 ((rd_T50 l0 x32_2).f0), .int .i64 ((rd_T50 l0 x32_2).f1), .int .i64 ((rd_T50 l0 x32_2).f2), .int .i64 0]) ?_ 3 _ rfl; (with_reducible repeat (first | refine blk_drewN ?_ _ | refine blk_drew ?_ | refine blk_alloc ?_ _)); refine blk_put (cs := #[.int .i64 ((rd_T50 l0 x32_2).f0), .int .i64 ((rd_T50 l0 x32_2).f1), .int .i64 0, .int .i64 0]) ?_ 2 _ rfl; (with_reducible repeat (first | refine blk_drewN ?_ _ | refine blk_drew ?_ | refine blk_alloc ?_ _)); refine blk_put (cs := #[.int .i64 ((rd_T50 l0 x32_2).f0), .int .i64 0, .int .i64 0, .int .i64 0]) ?_ 1 _ rfl; (with_reducible repeat (first | refine blk_drewN ?_ _ | refine blk_drew ?_ | refine blk_alloc ?_ _)); refine blk_put (cs := #[.int .i64 0, .int .i64 0, .int .i64 0, .int .i64 0]) ?_ 0 _ rfl; (with_reducible repeat (first | refine blk_drewN ?_ _ | refine blk_drew ?_ | refine blk_alloc ?_ _)); exact BK342.out) hb); have n4_ := Aside0.mk (below_step (by repeat (first | (with_reducible first | exact HB.out | apply below_alloc | apply pw_below_drewN | apply below_drew1 | refine below_set ?_ GE340.out | refine below_set ?_ GE342.out) | exact HB.out)) hb); clear HO_3; clear HO_4; clear BK340; clear BK342; clear HB; have HO_3 := n0_; have HO_4 := n1_; have BK340 := n2_; have BK342 := n3_; have HB := n4_; clear n0_ n1_ n2_ n3_ n4_; (try clear hb); (try clear hb2); (try clear hk); (try clear hi)))
       go_roundg k2
       case measure => have := HK1.out; have := HK2.out; omega
       case rel => exact ⟨(x4_2), (wrap64 (x32_2 + 1)), (by first | rfl | (simp; done) | (simp [*]; done)), H', ⟨by have := HK1.out; have := HK2.out; omega⟩, ⟨by (with_reducible repeat (first | apply Kd.S_alloc | apply Kd.S_drewN | apply Kd.S_drew)); exact HO_3.out⟩, ⟨by (with_reducible repeat (first | apply Kd.R_alloc | apply Kd.R_drewN | apply Kd.R_drew)); exact HO_4.out⟩, ⟨by (with_reducible repeat (first | refine blk_drewN ?_ _ | refine blk_drew ?_ | refine blk_alloc ?_ _)); exact BK340.out⟩, ⟨by repeat (first | (with_reducible first | exact HB.out | apply below_alloc | apply pw_below_drewN | apply below_drew1 | refine below_set ?_ GE340.out | refine below_set ?_ GE342.out) | exact HB.out)⟩⟩
      subst c20
      have H1 : (if 0 ≤ x25_1 then (if x25_1 < (x4_2.length : Int) then (impl_StagesOf.l1 k2 l0 y332 (x4_2.set (x25_1 : Int).toNat (Go.bits .or .i64 (rd x4_2 x25_1) (shl .i64 1 x32_2))) x25_1 l0 (l0.length : Int) x25_1 l0 (l0.length : Int) (wrap64 (x32_2 + 1)) ((rd_T50 l0 x25_1).f0) ((rd_T50 l0 x25_1).f1) ((rd_T50 l0 x25_1).f2) ((rd_T50 l0 x25_1).f3)) else (none)) else (none)) = some r := by rw [if_pos rfl] at H; exact H
      clear H
      have H := H1
      clear H1
      by_cases c21 : 0 ≤ x25_1
      rotate_left
      ·
       rw [if_neg c21] at H
       exact absurd H (by simp)
      rw [if_pos c21] at H
      have c21b0 : decide (0 ≤ x25_1) = true := decide_eq_true c21
      clear c21
      by_cases c22 : x25_1 < (x4_2.length : Int)
      rotate_left
      ·
       rw [if_neg c22] at H
       exact absurd H (by simp)
      rw [if_pos c22] at H
      have c22b0 : decide (x25_1 < (x4_2.length : Int)) = true := decide_eq_true c22
      clear c22
      have c23b0 := eq_true (of_decide_eq_true (by first | (with_reducible assumption) | assumption) : 0 ≤ x32_2)
      obtain ⟨ji24, hji24⟩ : ∃ j_ : Int, (shl .i64 1 x32_2) = j_ := ⟨_, rfl⟩
      replace H : (impl_StagesOf.l1 k2 l0 y332 (x4_2.set (x25_1 : Int).toNat (Go.bits .or .i64 (rd x4_2 x25_1) (ji24))) x25_1 l0 (l0.length : Int) x25_1 l0 (l0.length : Int) (wrap64 (x32_2 + 1)) ((rd_T50 l0 x25_1).f0) ((rd_T50 l0 x25_1).f1) ((rd_T50 l0 x25_1).f2) ((rd_T50 l0 x25_1).f3)) = some r := by first | (rw [hji24] at H; exact H) | (simp only [hji24] at H ⊢; exact H)
      (try rw [hji24] at A19)
      have hji24_ : (IntKind.i64.wrap (1 * 2 ^ min x32_2.toNat 64)) = ji24 := hji24
      have hji24z : x32_2 ≤ 64 → (IntKind.i64.wrap (1 * 2 ^ x32_2.toNat)) = ji24 := shl_small hji24
      have hji24u : (IntKind.i64.wrap (2 ^ min x32_2.toNat 64)) = ji24 := by have h_ := hji24_; rw [Int.one_mul] at h_; exact h_
      have hji24v : x32_2 ≤ 64 → (IntKind.i64.wrap (2 ^ x32_2.toNat)) = ji24 := fun hle_ => by have h_ := hji24z hle_; rw [Int.one_mul] at h_; exact h_
      have hji24y : (wrap64 (1 * 2 ^ min x32_2.toNat 64)) = ji24 := (i64_w _).symm.trans hji24_
      have hji24x : x32_2 ≤ 64 → (wrap64 (1 * 2 ^ x32_2.toNat)) = ji24 := fun h_ => (i64_w _).symm.trans (hji24z h_)
      obtain ⟨y345, hy345⟩ : ∃ y_ : List Int, y_ = (x4_2.set (x25_1 : Int).toNat (Go.bits .or .i64 (rd x4_2 x25_1) (ji24))) := ⟨_, rfl⟩
      replace H : (impl_StagesOf.l1 k2 l0 y332 y345 x25_1 l0 (l0.length : Int) x25_1 l0 (l0.length : Int) (wrap64 (x32_2 + 1)) ((rd_T50 l0 x25_1).f0) ((rd_T50 l0 x25_1).f1) ((rd_T50 l0 x25_1).f2) ((rd_T50 l0 x25_1).f3)) = some r := by first | (rw [hy345]; with_reducible exact H) | (have H2_ := (Option.bind_some _ _).symm.trans H; rw [hy345]; with_reducible exact H2_) | (have H2_ := (Option.bind_some _ _).symm.trans H; with_reducible exact H2_) | with_reducible exact H | (rw [hy345]; exact H) | exact H
      have Ny345 := Aside0.mk hy345
      clear hy345
      have H' := Aside0.mk H
      clear H
      have p341 : 0 ≤ (x32_2 : Int) := of_decide_eq_true (by first | (with_reducible assumption) | assumption)
      have q341 : x32_2 < (l0.length : Int) := of_decide_eq_true (by first | (with_reducible assumption) | assumption)
      obtain ⟨ad341, e341, hx341_0, hx341_1, hx341_2, hx341_3⟩ := at_T50 HR0.out x32_2 p341 q341
      obtain rfl : ad339 = ad341 := (by injection e341)
      replace hx341_0 := (HB.out.cell (World.block_lt_of_cell? w _ hx341_0)).trans hx341_0
      replace hx341_1 := (HB.out.cell (World.block_lt_of_cell? w _ hx341_1)).trans hx341_1
      replace hx341_2 := (HB.out.cell (World.block_lt_of_cell? w _ hx341_2)).trans hx341_2
      replace hx341_3 := (HB.out.cell (World.block_lt_of_cell? w _ hx341_3)).trans hx341_3
      replace p341 := eq_true p341
      replace q341 := eq_true q341
      try go_wp2_with (first | ((with_reducible refine gate_dst (N := 8) rfl ?_); refine box_event ?hg (N := 8) ?hd (cs := #[.int .i64 0, .int .i64 0, .int .i64 0, .int .i64 0]) (t := 50) ?hr ?_; (case hd => rfl); (case hg => rfl); (case hr => first | (go_simp; done) | (go_simp; rfl)); intro gb342 hg w26 hbox hb; have n0_ := Aside0.mk (Kd.S_below (by (with_reducible repeat (first | apply Kd.S_alloc | apply Kd.S_drewN | apply Kd.S_drew)); exact HO_3.out) hb); have n1_ := Aside0.mk (Kd.R_below (by (with_reducible repeat (first | apply Kd.R_alloc | apply Kd.R_drewN | apply Kd.R_drew)); exact HO_4.out) hb); have n2_ := Aside0.mk (blk_below (g := gb340) (o := .cells #[.int .i64 ((rd_T50 l0 x25_1).f0), .int .i64 ((rd_T50 l0 x25_1).f1), .int .i64 ((rd_T50 l0 x25_1).f2), .int .i64 ((rd_T50 l0 x25_1).f3)] 50 (0, 0)) (by (with_reducible repeat (first | refine blk_drewN ?_ _ | refine blk_drew ?_ | refine blk_alloc ?_ _)); exact BK340.out) hb); have n3_ := Aside0.mk (below_step (by repeat (first | (with_reducible first | exact HB.out | apply below_alloc | apply pw_below_drewN | apply below_drew1 | refine below_set ?_ GE340.out) | exact HB.out)) hb); have n4_ := Aside0.mk (hbox); have n5_ := Aside0.mk ((by rw [hg]; exact (below_size (by repeat (first | (with_reducible first | exact HB.out | apply below_alloc | apply pw_below_drewN | apply below_drew1 | refine below_set ?_ GE340.out) | exact HB.out))) : w.heap.size ≤ gb342)); have n6_ := Aside0.mk ((by rw [hg]; exact (below_size (by repeat (first | (with_reducible first | exact HB.out | apply below_alloc | apply pw_below_drewN | apply below_drew1 | refine below_set ?_ GE340.out) | exact HB.out))) : w.heap.size ≤ gb342)); have n7_ := Aside0.mk ((by rw [hg]; exact Nat.ne_of_lt (blk_lt (g := gb340) (o := .cells #[.int .i64 ((rd_T50 l0 x25_1).f0), .int .i64 ((rd_T50 l0 x25_1).f1), .int .i64 ((rd_T50 l0 x25_1).f2), .int .i64 ((rd_T50 l0 x25_1).f3)] 50 (0, 0)) (by (with_reducible repeat (first | refine blk_drewN ?_ _ | refine blk_drew ?_ | refine blk_alloc ?_ _)); exact BK340.out)) : gb340 ≠ gb342)); have n8_ := Aside0.mk ((by rw [hg]; exact Nat.ne_of_gt (blk_lt (g := gb340) (o := .cells #[.int .i64 ((rd_T50 l0 x25_1).f0), .int .i64 ((rd_T50 l0 x25_1).f1), .int .i64 ((rd_T50 l0 x25_1).f2), .int .i64 ((rd_T50 l0 x25_1).f3)] 50 (0, 0)) (by (with_reducible repeat (first | refine blk_drewN ?_ _ | refine blk_drew ?_ | refine blk_alloc ?_ _)); exact BK340.out)) : gb342 ≠ gb340)); clear HO_3; clear HO_4; clear BK340; clear HB; have HO_3 := n0_; have HO_4 := n1_; have BK340 := n2_; have HB := n3_; have BK342 := n4_; have GW342 := n5_; have GE342 := n6_; have NB340_342 := n7_; have NB342_340 := n8_; clear n0_ n1_ n2_ n3_ n4_ n5_ n6_ n7_ n8_; clear hb hbox hg; have hnb27 := NB342_340.out; have hnc27 := NB340_342.out; have hcz28_0 : w26.cell? ⟨gb342, 0, none⟩ = some (.int .i64 0) := (blk_cell BK342.out 0).trans rfl; have hcz28_1 : w26.cell? ⟨gb342, 1, none⟩ = some (.int .i64 0) := (blk_cell BK342.out 1).trans rfl; have hcz28_2 : w26.cell? ⟨gb342, 2, none⟩ = some (.int .i64 0) := (blk_cell BK342.out 2).trans rfl; have hcz28_3 : w26.cell? ⟨gb342, 3, none⟩ = some (.int .i64 0) := (blk_cell BK342.out 3).trans rfl; have hfz28_0 := blk_frozen BK342.out 0; have hfz28_1 := blk_frozen BK342.out 1; have hfz28_2 := blk_frozen BK342.out 2; have hfz28_3 := blk_frozen BK342.out 3; have hcz29_0 : w26.cell? ⟨gb340, 0, none⟩ = some (.int .i64 ((rd_T50 l0 x25_1).f0)) := (blk_cell BK340.out 0).trans rfl; have hcz29_1 : w26.cell? ⟨gb340, 1, none⟩ = some (.int .i64 ((rd_T50 l0 x25_1).f1)) := (blk_cell BK340.out 1).trans rfl; have hcz29_2 : w26.cell? ⟨gb340, 2, none⟩ = some (.int .i64 ((rd_T50 l0 x25_1).f2)) := (blk_cell BK340.out 2).trans rfl; have hcz29_3 : w26.cell? ⟨gb340, 3, none⟩ = some (.int .i64 ((rd_T50 l0 x25_1).f3)) := (blk_cell BK340.out 3).trans rfl; have hfz29_0 := blk_frozen BK340.out 0; have hfz29_1 := blk_frozen BK340.out 1; have hfz29_2 := blk_frozen BK340.out 2; have hfz29_3 := blk_frozen BK340.out 3) | ((with_reducible refine gate_callee (f := 46) rfl ?_); refine goesL_ (some 39) rfl rfl Try.func46 (by kernel_rfl) rfl #[.agg #[.int .i64 ((rd_T50 l0 x25_1).f0), .int .i64 ((rd_T50 l0 x25_1).f1), .int .i64 ((rd_T50 l0 x25_1).f2), .int .i64 ((rd_T50 l0 x25_1).f3)], .agg #[.int .i64 ((rd_T50 l0 x32_2).f0), .int .i64 ((rd_T50 l0 x32_2).f1), .int .i64 ((rd_T50 l0 x32_2).f2), .int .i64 ((rd_T50 l0 x32_2).f3)]] rfl (by (try simp only [List.map_toArray, List.map_cons, List.map_nil]); first | done | rfl | (simp only [List.length_drop, List.length_take]; rfl)) ?_; (with_reducible refine (impl_Conflict.calls k2 ((rd_T50 l0 x25_1).f0) ((rd_T50 l0 x25_1).f1) ((rd_T50 l0 x25_1).f2) ((rd_T50 l0 x25_1).f3) ((rd_T50 l0 x32_2).f0) ((rd_T50 l0 x32_2).f1) ((rd_T50 l0 x32_2).f2) ((rd_T50 l0 x32_2).f3) true _ A19.out).mono ?_); rintro e w30 ⟨rfl, hb⟩; refine ⟨_, rfl, ?_⟩; have n0_ := Aside0.mk (Kd.S_below (by (with_reducible repeat (first | apply Kd.S_alloc | apply Kd.S_drewN | apply Kd.S_drew)); exact (Kd.S_mono (Kd.S_far (p := ⟨gb342, 3, none⟩) (Kd.S_far (p := ⟨gb342, 2, none⟩) (Kd.S_far (p := ⟨gb342, 1, none⟩) (Kd.S_far (p := ⟨gb342, 0, none⟩) (Kd.S_types HO_3.out BK342.out (by decide)) (fun _ hk => hk.2) (.int .i64 ((rd_T50 l0 x32_2).f0))) (fun _ hk => hk.2) (.int .i64 ((rd_T50 l0 x32_2).f1))) (fun _ hk => hk.2) (.int .i64 ((rd_T50 l0 x32_2).f2))) (fun _ hk => hk.2) (.int .i64 ((rd_T50 l0 x32_2).f3))) (fun _ h_ => h_.1))) hb); have n1_ := Aside0.mk (Kd.R_below (by (with_reducible repeat (first | apply Kd.R_alloc | apply Kd.R_drewN | apply Kd.R_drew)); exact (Kd.R_mono (Kd.R_far (p := ⟨gb342, 3, none⟩) (Kd.R_far (p := ⟨gb342, 2, none⟩) (Kd.R_far (p := ⟨gb342, 1, none⟩) (Kd.R_far (p := ⟨gb342, 0, none⟩) (Kd.R_types HO_4.out BK342.out (by decide)) (fun _ hk => hk.2) (.int .i64 ((rd_T50 l0 x32_2).f0))) (fun _ hk => hk.2) (.int .i64 ((rd_T50 l0 x32_2).f1))) (fun _ hk => hk.2) (.int .i64 ((rd_T50 l0 x32_2).f2))) (fun _ hk => hk.2) (.int .i64 ((rd_T50 l0 x32_2).f3))) (fun _ h_ => h_.1))) hb); have n2_ := Aside0.mk (blk_below (g := gb340) (o := .cells #[.int .i64 ((rd_T50 l0 x25_1).f0), .int .i64 ((rd_T50 l0 x25_1).f1), .int .i64 ((rd_T50 l0 x25_1).f2), .int .i64 ((rd_T50 l0 x25_1).f3)] 50 (0, 0)) (by (with_reducible repeat (first | refine blk_drewN ?_ _ | refine blk_drew ?_ | refine blk_alloc ?_ _)); refine blk_far ?_ NB340_342.out _; (with_reducible repeat (first | refine blk_drewN ?_ _ | refine blk_drew ?_ | refine blk_alloc ?_ _)); refine blk_far ?_ NB340_342.out _; (with_reducible repeat (first | refine blk_drewN ?_ _ | refine blk_drew ?_ | refine blk_alloc ?_ _)); refine blk_far ?_ NB340_342.out _; (with_reducible repeat (first | refine blk_drewN ?_ _ | refine blk_drew ?_ | refine blk_alloc ?_ _)); refine blk_far ?_ NB340_342.out _; (with_reducible repeat (first | refine blk_drewN ?_ _ | refine blk_drew ?_ | refine blk_alloc ?_ _)); exact BK340.out) hb); have n3_ := Aside0.mk (blk_below (g := gb342) (o := .cells #[.int .i64 ((rd_T50 l0 x32_2).f0), .int .i64 ((rd_T50 l0 x32_2).f1), .int .i64 ((rd_T50 l0 x32_2).f2), .int .i64 ((rd_T50 l0 x32_2).f3)] 50 (0, 0)) (by (with_reducible repeat (first | refine blk_drewN ?_ _ | refine blk_drew ?_ | refine blk_alloc ?_ _)); refine blk_put (cs := #[.int .i64 ((rd_T50 l0 x32_2).f0), .int .i64 ((rd_T50 l0 x32_2).f1), .int .i64 ((rd_T50 l0 x32_2).f2), .int .i64 0]) ?_ 3 _ rfl; (with_reducible repeat (first | refine blk_drewN ?_ _ | refine blk_drew ?_ | refine blk_alloc ?_ _)); refine blk_put (cs := #[.int .i64 ((rd_T50 l0 x32_2).f0), .int .i64 ((rd_T50 l0 x32_2).f1), .int .i64 0, .int .i64 0]) ?_ 2 _ rfl; (with_reducible repeat (first | refine blk_drewN ?_ _ | refine blk_drew ?_ | refine blk_alloc ?_ _)); refine blk_put (cs := #[.int .i64 ((rd_T50 l0 x32_2).f0), .int .i64 0, .int .i64 0, .int .i64 0]) ?_ 1 _ rfl; (with_reducible repeat (first | refine blk_drewN ?_ _ | refine blk_drew ?_ | refine blk_alloc ?_ _)); refine blk_put (cs := #[.int .i64 0, .int .i64 0, .int .i64 0, .int .i64 0]) ?_ 0 _ rfl; (with_reducible repeat (first | refine blk_drewN ?_ _ | refine blk_drew ?_ | refine blk_alloc ?_ _)); exact BK342.out) hb); have n4_ := Aside0.mk (below_step (by repeat (first | (with_reducible first | exact HB.out | apply below_alloc | apply pw_below_drewN | apply below_drew1 | refine below_set ?_ GE340.out | refine below_set ?_ GE342.out) | exact HB.out)) hb); clear HO_3; clear HO_4; clear BK340; clear BK342; clear HB; have HO_3 := n0_; have HO_4 := n1_; have BK340 := n2_; have BK342 := n3_; have HB := n4_; clear n0_ n1_ n2_ n3_ n4_; (try clear hb); (try clear hb2); (try clear hk); (try clear hi)))
      have n0_ := Aside0.mk (Kd.S_drew HO_3.out)
      have n1_ := Aside0.mk (Kd.R_drew HO_4.out)
      have n2_ := Aside0.mk (blk_drew BK340.out)
      have n3_ := Aside0.mk (blk_drew BK342.out)
      have n4_ := Aside0.mk (below_drew1 HB.out)
      clear HO_3
      clear HO_4
      clear BK340
      clear BK342
      clear HB
      have HO_3 := n0_
      have HO_4 := n1_
      have BK340 := n2_
      have BK342 := n3_
      have HB := n4_
      clear n0_ n1_ n2_ n3_ n4_
      obtain ⟨Ao32, co32, eo32⟩ := Kd.R_slice HO_4.out
      (first | subst eo32 | (injection eo32 with f1_ f2_ f3_; have f4_ := f1_.symm; have f5_ := f3_.symm; clear f1_ f2_ f3_; subst f4_; subst f5_))
      have p344 : 0 ≤ (x25_1 : Int) := of_decide_eq_true (by first | (with_reducible assumption) | assumption)
      have q344 : x25_1 < (x4_2.length : Int) := of_decide_eq_true (by first | (with_reducible assumption) | assumption)
      obtain ⟨ad344, e344, hx344_0⟩ := Kd.at_int (Kd.R_reads' HO_4.out).2.2 x25_1 p344 q344
      cases e344
      replace p344 := eq_true p344
      replace q344 := eq_true q344
      have p25 : 0 ≤ (x25_1 : Int) := of_decide_eq_true (by first | (with_reducible assumption) | assumption)
      have q25 : (x25_1 : Int) < ((x4_2.length : Int) : Int) := of_decide_eq_true (by first | (with_reducible assumption) | assumption)
      obtain ⟨go25, co25, eo25, gb25, gl25, cl25, HG25⟩ := Kd.R_form HO_4.out (by omega)
      (first | cases eo25 | (injection eo25 with ea_ en_ ec_; (first | subst ea_ | (injection ea_ with ea_; subst ea_)); subst ec_; clear en_))
      have GB25 := Aside0.mk gb25
      have GG25 := Aside0.mk HG25
      clear gb25 gl25 HG25
      (first | simp only [add_plain] at hx344_0 | skip)
      obtain ⟨hx25_0, hf25_0⟩ := Kd.R_celln 0 HO_4.out (x25_1 : Int) p25 q25
      replace p25 := eq_true p25
      replace q25 := eq_true q25
      have HP33 := Kd.R_putn HO_4.out (x25_1 : Int) (Go.bits .or .i64 (rd x4_2 x25_1) (ji24))
      rw [← Ny345.out] at HP33
      have HQ33 := Aside0.mk HP33
      clear HP33
      refine start_ (n := 9) (S := fun w' => w'.cell? ⟨go25, (x25_1).toNat, none⟩ = some (.int .i64 (rd x4_2 x25_1))) (ds := [8]) (bs 9 0) (by kernel_rfl) rfl (by kernel_rfl) (hx344_0) (fun hHeld => ?_); refine with_tabW impl_StagesOf.tab12 impl_StagesOf.bits12 (fun HT_ HW_ => ?_)
      generalize w30.drew = w31 at HO_3 HO_4 BK340 BK342 HB GG25 HQ33 hf25_0 hx25_0 hx344_0 hHeld ⊢
      refine pu 0 40 (bs 9 1) HT_ (h := ?_)
      refine pu 1 41 (bs 9 3) HT_ (h := ?_)
      refine pu 2 42 (bs 9 7) HT_ (h := ?_)
      refine pu 4 44 (bs 9 23) HT_ (h := ?_)
      refine pu 5 45 (bs 9 55) HT_ (h := ?_)
      refine take_ (i := 3) (N := some 43) (v := ?_) (a' := ?_) (bs 9 63) rfl rfl (take_ofW HT_.out HW_.out (by kernel_rfl)) (fun _ _ _ h => h) (Or.inl ⟨by rfl, ?_⟩) hHeld ?_ ?_
      rotate_left
      ·
       intro w' s0
       go_simp
       with_reducible rfl
      rotate_left
      ·
       simp only [Act.put, List.setIfInBounds_toArray, List.set_cons_zero, List.set_cons_succ, i64_w, i32_w]
       rfl
      refine pu 6 46 (bs 9 127) HT_ (h := ?_)
      refine pu 7 47 (bs 9 255) HT_ (h := ?_)
      refine last_ (i := 8) (N := none) (bs 9 511) rfl rfl (one_of HT_.out (by kernel_rfl)) (by decide) (fun K hK => ?_)
      refine skip_ (w1 := ?_) (by rfl) rfl ?_ ?_
      rotate_left
      ·
       go_simp
       rfl
      refine hK.out _ _ ?_
      clear hK K
      refine done_ (done_of HT_.out (by kernel_rfl)) ?_
      try go_wp2
      go_roundg k2
      case measure => have := HK1.out; have := HK2.out; omega
      case rel => exact ⟨(y345), (wrap64 (x32_2 + 1)), (by first | rfl | (simp; done) | (simp [*]; done)), H', ⟨by have := HK1.out; have := HK2.out; omega⟩, ⟨by (with_reducible repeat (first | apply Kd.S_alloc | apply Kd.S_drewN | apply Kd.S_drew)); exact Kd.S_mono (Kd.S_far (p := ⟨go25, (x25_1 : Int).toNat, none⟩) (Kd.S_mono HO_3.out (fun k_ hk => (⟨hk, fun e_ => hk (by rw [e_]; rfl)⟩ : _ ∧ k_ ≠ go25))) (fun _ hk => hk.2) (.int .i64 (Go.bits .or .i64 (rd x4_2 x25_1) (ji24)))) (fun _ hk => hk.1)⟩, ⟨by (with_reducible repeat (first | apply Kd.R_alloc | apply Kd.R_drewN | apply Kd.R_drew)); exact HQ33.out⟩, ⟨by (with_reducible repeat (first | refine blk_drewN ?_ _ | refine blk_drew ?_ | refine blk_alloc ?_ _)); refine blk_far ?_ (by have h_ := Kd.R_ne HO_4.out BK340.out (by decide); intro e_; exact h_ (by rw [e_]; rfl)) _; (with_reducible repeat (first | refine blk_drewN ?_ _ | refine blk_drew ?_ | refine blk_alloc ?_ _)); exact BK340.out⟩, ⟨by repeat (first | (with_reducible first | exact HB.out | apply below_alloc | apply pw_below_drewN | apply below_drew1 | refine below_set ?_ GB25.out | refine below_set ?_ GE340.out | refine below_set ?_ GE342.out) | exact HB.out)⟩⟩
   rw [if_neg c11] at H
   have c11b0 : decide (x25_1 < (l0.length : Int)) = false := decide_eq_false c11
   clear c11
   have H' := Aside0.mk H
   clear H
   go_wp2
   go_loopg [3, 9] k1 (fun kq v3 v9 w' => ∃ (x3_2 : List (List Int)) (x9_2 : Int), v9 = .int .i64 x9_2 ∧ Aside0 (impl_StagesOf.l2 kq l0 x3_2 x4_1 x9_2 = some r) ∧ Aside0 (kq ≤ k1) ∧ Aside0 (Kd.S (Kd.slice 3 (Kd.int .i64)) 29 w' w.heap.size (fun k_ => some k_ ≠ (v337 : Value).ownBlock) v3 x3_2) ∧ Aside0 (Kd.R (Kd.int .i64) 3 w' w.heap.size (fun _ => True) v337 x4_1) ∧ Aside0 (Below w.heap.size w w'))
   case atStart => exact ⟨(y332), (1), (by first | rfl | (simp; done) | (simp [*]; done)), H', ⟨Nat.le_refl _⟩, ⟨by (with_reducible repeat (first | apply Kd.S_alloc | apply Kd.S_drewN | apply Kd.S_drew)); exact HO_3.out⟩, ⟨by (with_reducible repeat (first | apply Kd.R_alloc | apply Kd.R_drewN | apply Kd.R_drew)); exact HO_4.out⟩, ⟨by repeat (first | (with_reducible first | exact HB.out | apply below_alloc | apply pw_below_drewN | apply below_drew1) | exact HB.out)⟩⟩
   case round =>
    clear H'
    try clear c1
    try clear c2
    try clear p2
    try clear q2
    try clear hx2
    try clear hf2
    try clear c3
    try clear p3
    try clear q3
    try clear hx3
    try clear c4
    try clear c4b0
    try clear c4b1
    try clear c5
    try clear c5b0
    try clear c5b1
    try clear c6
    try clear p6
    try clear c11
    try clear c11b0
    try clear c12
    try clear c12b0
    try clear c13
    try clear c13b0
    try clear c16
    try clear c16b0
    try clear c17
    try clear c17b0
    try clear c18
    try clear c18b0
    try clear c20
    try clear c21
    try clear c21b0
    try clear c22
    try clear c22b0
    try clear c23
    try clear c23b0
    try clear p25
    try clear q25
    try clear hx25
    try clear hf25
    try clear c27
    try clear p33
    try clear q33
    try clear hx33
    try clear p34
    try clear q34
    try clear hx34
    try clear c35
    try clear hcz15_0
    try clear hcz15_1
    try clear hcz15_2
    try clear hcz15_3
    try clear hcz28_0
    try clear hcz28_1
    try clear hcz28_2
    try clear hcz28_3
    try clear hcz29_0
    try clear hcz29_1
    try clear hcz29_2
    try clear hcz29_3
    try clear hcz36_0
    try clear hcz36_1
    try clear hcz36_2
    try clear hcz36_3
    try clear hcz37_0
    try clear hcz37_1
    try clear hcz37_2
    try clear hcz37_3
    try clear hfz15_0
    try clear hfz15_1
    try clear hfz15_2
    try clear hfz15_3
    try clear hfz28_0
    try clear hfz28_1
    try clear hfz28_2
    try clear hfz28_3
    try clear hfz29_0
    try clear hfz29_1
    try clear hfz29_2
    try clear hfz29_3
    try clear hfz36_0
    try clear hfz36_1
    try clear hfz36_2
    try clear hfz36_3
    try clear hfz37_0
    try clear hfz37_1
    try clear hfz37_2
    try clear hfz37_3
    try clear hx25_0
    try clear hx339_0
    try clear hx339_1
    try clear hx339_2
    try clear hx339_3
    try clear hx341_0
    try clear hx341_1
    try clear hx341_2
    try clear hx341_3
    try clear hx344_0
    try clear p2
    try clear p25
    try clear p3
    try clear p339
    try clear p341
    try clear p344
    try clear q25
    try clear q3
    try clear q339
    try clear q341
    try clear q344
    obtain ⟨x3_2, x9_2, rfl, HA, HK2, HO_3, HO_4, HB⟩ := hrel
    cases gk with
    | zero => exact absurd HA.out (by simp [impl_StagesOf.l2])
    | succ k2 =>
     have H := HA.out
     clear HA
     simp only [impl_StagesOf.l2] at H
     obtain ⟨ji39, hji39⟩ : ∃ j_ : Int, (shl .i64 1 (l0.length : Int)) = j_ := ⟨_, rfl⟩
     replace H : (if x9_2 < (ji39) then (impl_StagesOf.l3 k2 l0 x3_2 x4_1 x9_2 true (([] : List Int)) l0 (l0.length : Int) 0) else (some x3_2)) = some r := by first | (rw [hji39] at H; exact H) | (simp only [hji39] at H ⊢; exact H)
     have hji39_ : (IntKind.i64.wrap (1 * 2 ^ min (l0.length : Int).toNat 64)) = ji39 := hji39
     have hji39z : (l0.length : Int) ≤ 64 → (IntKind.i64.wrap (1 * 2 ^ (l0.length : Int).toNat)) = ji39 := shl_small hji39
     have hji39p : (IntKind.i64.wrap (1 * 2 ^ min l0.length 64)) = ji39 := hji39_
     have hji39q : (l0.length : Int) ≤ 64 → (IntKind.i64.wrap (1 * 2 ^ l0.length)) = ji39 := hji39z
     have hji39r : (IntKind.i64.wrap (2 ^ min l0.length 64)) = ji39 := by have h_ := hji39p; rw [Int.one_mul] at h_; exact h_
     have hji39s : (l0.length : Int) ≤ 64 → (IntKind.i64.wrap (2 ^ l0.length)) = ji39 := fun hle_ => by have h_ := hji39q hle_; rw [Int.one_mul] at h_; exact h_
     have hji39u : (IntKind.i64.wrap (2 ^ min (l0.length : Int).toNat 64)) = ji39 := by have h_ := hji39_; rw [Int.one_mul] at h_; exact h_
     have hji39v : (l0.length : Int) ≤ 64 → (IntKind.i64.wrap (2 ^ (l0.length : Int).toNat)) = ji39 := fun hle_ => by have h_ := hji39z hle_; rw [Int.one_mul] at h_; exact h_
     have hji39y : (wrap64 (1 * 2 ^ min (l0.length : Int).toNat 64)) = ji39 := (i64_w _).symm.trans hji39_
     have hji39x : (l0.length : Int) ≤ 64 → (wrap64 (1 * 2 ^ (l0.length : Int).toNat)) = ji39 := fun h_ => (i64_w _).symm.trans (hji39z h_)
     by_cases c40 : x9_2 < (ji39)
     rotate_left
     ·
      rw [if_neg c40] at H
      have c40b0 : decide (x9_2 < (ji39)) = false := decide_eq_false c40
      clear c40
      obtain rfl := Option.some.inj H
      obtain ⟨Az, cz, ez⟩ := Kd.S_slice HO_3.out
      subst ez
      have HN := Aside0.mk (Kd.S_reads' HO_3.out).2.1
      have HLs := Aside0.mk (sortV_perm x3_2).length_eq
      obtain ⟨i0_, hi0_, _, _, _⟩ := info_parts info29
      by_cases c40 : (x3_2.length : Int) ≤ 40
      rotate_left
      ·
       have c40b0 := eq_false c40
       have c40b1 : ((40 : Int) < (x3_2.length : Int)) = True := eq_true (by omega)
       have hcut := cut_to (P := Try.prog) 38 29 .i64 Try.underlying38 hi0_ Az x3_2.length cz 40 (by omega) (by omega) HN.out
       have HLe : 40 ≤ x3_2.length := by omega
       have HLf := Aside0.mk HLe
       clear hi0_ c40 HLe
       go_wp2_with (first
         | (go_at_call 96; (with_reducible refine (sort_at (Kd.S_mono (ok' := fun _ => True) HO_3.out (fun _ _ => trivial)) HLen.out HB.out).mono ?_); rintro e w' ⟨rfl, hs, hb⟩; have HS := Aside0.mk hs; have HB2 := Aside0.mk hb; clear hs hb))
       go_ret
       refine ⟨_, rfl, ?_, HB2.out⟩
       exact Kd.S_take HS.out (by rw [HLs.out]; exact HLf.out)
      have c40b0 := eq_true c40
      have c40b1 : ((40 : Int) < (x3_2.length : Int)) = False := eq_false (by omega)
      have hcut := cut_to (P := Try.prog) 38 29 .i64 Try.underlying38 hi0_ Az x3_2.length cz (x3_2.length : Int) (by omega) (Int.le_refl _) HN.out
      have HLe : x3_2.length ≤ 40 := by omega
      have HLf := Aside0.mk HLe
      clear hi0_ c40 HLe
      go_wp2_with (first
        | (go_at_call 96; (with_reducible refine (sort_at (Kd.S_mono (ok' := fun _ => True) HO_3.out (fun _ _ => trivial)) HLen.out HB.out).mono ?_); rintro e w' ⟨rfl, hs, hb⟩; have HS := Aside0.mk hs; have HB2 := Aside0.mk hb; clear hs hb))
      go_ret
      refine ⟨_, rfl, ?_, HB2.out⟩
      rw [finV, List.take_of_length_le (by rw [HLs.out]; exact HLf.out)]
      exact HS.out
     rw [if_pos c40] at H
     have c40b0 : decide (x9_2 < (ji39)) = true := decide_eq_true c40
     clear c40
     obtain ⟨y346, hy346⟩ : ∃ y_ : List Int, y_ = (([] : List Int)) := ⟨_, rfl⟩
     replace H : (impl_StagesOf.l3 k2 l0 x3_2 x4_1 x9_2 true y346 l0 (l0.length : Int) 0) = some r := by first | (rw [hy346]; with_reducible exact H) | (have H2_ := (Option.bind_some _ _).symm.trans H; rw [hy346]; with_reducible exact H2_) | (have H2_ := (Option.bind_some _ _).symm.trans H; with_reducible exact H2_) | with_reducible exact H | (rw [hy346]; exact H) | exact H
     have Ny346 := Aside0.mk hy346
     clear hy346
     have H' := Aside0.mk H
     clear H
     go_wp2_with (first | ((with_reducible refine gate_dst (N := 57) rfl ?_); refine Kd.R_lit (Kd.int .i64) _ 3 ?hg (N := 57) ?hd (xs := ([] : List Int)) (inner := []) (ok := fun _ => True) (okp := fun _ => True) ?hr ?hp (fun _ hk => hk) trivial (Below.refl _ _) (Nat.le_refl _) (by simp) ?_; (case hd => rfl); (case hg => rfl); (case hr => first | (go_simp; done) | (go_simp; rfl)); (case hp => exact (Reps.none _ _)); intro v347 w41 ho42 hb hg_ hnew_; clear hg_ hnew_; (first | rw [← Ny346.out] at ho42 | (simp only [Int.reduceToNat] at ho42; rw [← Ny346.out] at ho42)); have n0_ := Aside0.mk (Kd.S_elder' (by (with_reducible repeat (first | apply Kd.S_alloc | apply Kd.S_drewN | apply Kd.S_drew)); exact HO_3.out) (Kd.R_base ho42) hb); have n1_ := Aside0.mk (Kd.R_elder' (by (with_reducible repeat (first | apply Kd.R_alloc | apply Kd.R_drewN | apply Kd.R_drew)); exact HO_4.out) (Kd.R_base ho42) hb); have n2_ := Aside0.mk (Kd.R_lower (Kd.R_new' ho42 (Kd.R_lt (by (with_reducible repeat (first | apply Kd.R_alloc | apply Kd.R_drewN | apply Kd.R_drew)); exact HO_4.out))) (below_size (by repeat (first | (with_reducible first | exact HB.out | apply below_alloc | apply pw_below_drewN | apply below_drew1) | exact HB.out)))); have n3_ := Aside0.mk (below_step (by repeat (first | (with_reducible first | exact HB.out | apply below_alloc | apply pw_below_drewN | apply below_drew1) | exact HB.out)) hb); clear HO_3; clear HO_4; clear HB; have HO_3 := n0_; have HO_4 := n1_; have HO348 := n2_; have HB := n3_; clear n0_ n1_ n2_ n3_; clear hb ho42))
     go_loopg [10, 11, 60] k2 (fun kq v10 v11 v60 w' => ∃ (x10_3 : Bool) (x11_3 : List Int) (x60_3 : Int), v10 = .bool x10_3 ∧ v60 = .int .i64 x60_3 ∧ Aside0 (impl_StagesOf.l3 kq l0 x3_2 x4_1 x9_2 x10_3 x11_3 l0 (l0.length : Int) x60_3 = some r) ∧ Aside0 (kq ≤ k2) ∧ Aside0 (Kd.S (Kd.slice 3 (Kd.int .i64)) 29 w' w.heap.size (fun k_ => some k_ ≠ (v337 : Value).ownBlock ∧ some k_ ≠ (v11 : Value).ownBlock) u3 x3_2) ∧ Aside0 (Kd.R (Kd.int .i64) 3 w' w.heap.size (fun k_ => some k_ ≠ (v11 : Value).ownBlock) v337 x4_1) ∧ Aside0 (Kd.R (Kd.int .i64) 3 w' w.heap.size (fun k_ => some k_ ≠ (v337 : Value).ownBlock) v11 x11_3) ∧ Aside0 (Below w.heap.size w w'))
     case atStart => exact ⟨(true), (y346), (0), (by first | rfl | (simp; done) | (simp [*]; done)), (by first | rfl | (simp; done) | (simp [*]; done)), H', ⟨Nat.le_refl _⟩, ⟨by (with_reducible repeat (first | apply Kd.S_alloc | apply Kd.S_drewN | apply Kd.S_drew)); exact HO_3.out⟩, ⟨by (with_reducible repeat (first | apply Kd.R_alloc | apply Kd.R_drewN | apply Kd.R_drew)); exact Kd.R_mono HO_4.out (fun _ hk => hk.2)⟩, ⟨by (with_reducible repeat (first | apply Kd.R_alloc | apply Kd.R_drewN | apply Kd.R_drew)); exact Kd.R_mono HO348.out (fun _ hk => hk.2)⟩, ⟨by repeat (first | (with_reducible first | exact HB.out | apply below_alloc | apply pw_below_drewN | apply below_drew1) | exact HB.out)⟩⟩
     case round =>
      clear H'
      try clear c1
      try clear c2
      try clear p2
      try clear q2
      try clear hx2
      try clear hf2
      try clear c3
      try clear p3
      try clear q3
      try clear hx3
      try clear c4
      try clear c4b0
      try clear c4b1
      try clear c5
      try clear c5b0
      try clear c5b1
      try clear c6
      try clear p6
      try clear c11
      try clear c11b0
      try clear c12
      try clear c12b0
      try clear c13
      try clear c13b0
      try clear c16
      try clear c16b0
      try clear c17
      try clear c17b0
      try clear c18
      try clear c18b0
      try clear c20
      try clear c21
      try clear c21b0
      try clear c22
      try clear c22b0
      try clear c23
      try clear c23b0
      try clear p25
      try clear q25
      try clear hx25
      try clear hf25
      try clear c27
      try clear p33
      try clear q33
      try clear hx33
      try clear p34
      try clear q34
      try clear hx34
      try clear c35
      try clear c40
      try clear c40b0
      try clear hcz15_0
      try clear hcz15_1
      try clear hcz15_2
      try clear hcz15_3
      try clear hcz28_0
      try clear hcz28_1
      try clear hcz28_2
      try clear hcz28_3
      try clear hcz29_0
      try clear hcz29_1
      try clear hcz29_2
      try clear hcz29_3
      try clear hcz36_0
      try clear hcz36_1
      try clear hcz36_2
      try clear hcz36_3
      try clear hcz37_0
      try clear hcz37_1
      try clear hcz37_2
      try clear hcz37_3
      try clear hfz15_0
      try clear hfz15_1
      try clear hfz15_2
      try clear hfz15_3
      try clear hfz28_0
      try clear hfz28_1
      try clear hfz28_2
      try clear hfz28_3
      try clear hfz29_0
      try clear hfz29_1
      try clear hfz29_2
      try clear hfz29_3
      try clear hfz36_0
      try clear hfz36_1
      try clear hfz36_2
      try clear hfz36_3
      try clear hfz37_0
      try clear hfz37_1
      try clear hfz37_2
      try clear hfz37_3
      try clear hx25_0
      try clear hx339_0
      try clear hx339_1
      try clear hx339_2
      try clear hx339_3
      try clear hx341_0
      try clear hx341_1
      try clear hx341_2
      try clear hx341_3
      try clear hx344_0
      try clear p2
      try clear p25
      try clear p3
      try clear p33
      try clear p339
      try clear p34
      try clear p341
      try clear p344
      try clear p6
      try clear q2
      try clear q25
      try clear q3
      try clear q33
      try clear q339
      try clear q34
      try clear q341
      try clear q344
      obtain ⟨x10_3, x11_3, x60_3, rfl, rfl, HA, HK3, HO_3, HO_4, HO_11, HB⟩ := hrel
      cases gk with
      | zero => exact absurd HA.out (by simp [impl_StagesOf.l3])
      | succ k3 =>
       have H := HA.out
       clear HA
       simp only [impl_StagesOf.l3] at H
       by_cases c43 : x60_3 < (l0.length : Int)
       rotate_left
       ·
        rw [if_neg c43] at H
        have c43b0 : decide (x60_3 < (l0.length : Int)) = false := decide_eq_false c43
        clear c43
        by_cases c62 : x10_3 = true
        rotate_left
        ·
         replace c62 := Bool.eq_false_iff.mpr c62
         subst c62
         have H1 : (impl_StagesOf.l2 k3 l0 x3_2 x4_1 (wrap64 (x9_2 + 1))) = some r := by rw [if_neg (show ¬ (false = true) by decide)] at H; exact H
         clear H
         have H := H1
         clear H1
         have H' := Aside0.mk H
         clear H
         go_wp2
         go_roundg k3
         case measure => have := HK1.out; have := HK2.out; have := HK3.out; omega
         case rel => exact ⟨(x3_2), (wrap64 (x9_2 + 1)), (by first | rfl | (simp; done) | (simp [*]; done)), H', ⟨by have := HK1.out; have := HK2.out; have := HK3.out; omega⟩, ⟨by (with_reducible repeat (first | apply Kd.S_alloc | apply Kd.S_drewN | apply Kd.S_drew)); exact Kd.S_mono HO_3.out (fun _ hk => hk.1)⟩, ⟨by (with_reducible repeat (first | apply Kd.R_alloc | apply Kd.R_drewN | apply Kd.R_drew)); exact Kd.R_mono HO_4.out (fun _ hk => trivial)⟩, ⟨by repeat (first | (with_reducible first | exact HB.out | apply below_alloc | apply pw_below_drewN | apply below_drew1) | exact HB.out)⟩⟩
        subst c62
        have H1 : (if x3_2.length < 5864062014805 then (impl_StagesOf.l2 k3 l0 (x3_2 ++ [x11_3]) x4_1 (wrap64 (x9_2 + 1))) else (none)) = some r := by rw [if_pos rfl] at H; exact H
        clear H
        have H := H1
        clear H1
        by_cases c63 : x3_2.length < 5864062014805
        rotate_left
        ·
         rw [if_neg c63] at H
         exact absurd H (by simp)
        rw [if_pos c63] at H
        have LMc63 := Aside0.mk c63
        clear c63
        obtain ⟨y349, hy349⟩ : ∃ y_ : List (List Int), y_ = (x3_2 ++ [x11_3]) := ⟨_, rfl⟩
        replace H : (impl_StagesOf.l2 k3 l0 y349 x4_1 (wrap64 (x9_2 + 1))) = some r := by first | (rw [hy349]; with_reducible exact H) | (have H2_ := (Option.bind_some _ _).symm.trans H; rw [hy349]; with_reducible exact H2_) | (have H2_ := (Option.bind_some _ _).symm.trans H; with_reducible exact H2_) | with_reducible exact H | (rw [hy349]; exact H) | exact H
        have Ny349 := Aside0.mk hy349
        clear hy349
        have H' := Aside0.mk H
        clear H
        obtain ⟨Ao65, co65, eo65⟩ := Kd.R_slice HO_11.out
        subst eo65
        go_wp2_with (first | ((with_reducible refine gate_builtin (b := .append) (xs := #[.tmp 87, .tmp 89]) rfl ?_); at_builtin; refine Kd.S_append (Kd.slice 3 (Kd.int .i64)) (w0 := w) w.heap.size rfl (.tmp 87) (.tmp 89) 38 29 (.slice none 0 0) 24 rfl Try.underlying38 info29 rfl (by decide) (by omega) u3 x3_2 x11_3 [.slice Ao65 x11_3.length co65] (fun k_ => some k_ ≠ (v337 : Value).ownBlock) (fun k_ => some k_ = (.slice Ao65 x11_3.length co65 : Value).ownBlock) rfl rfl ?aP (fun k_ hk_ => ((Kd.R_mono (ok' := fun k_ => ((fun k_ => some k_ ≠ (v337 : Value).ownBlock)) k_ ∧ some k_ ≠ (u3 : Value).ownBlock) (Kd.R_apart' (HO_11.out) (Kd.S_typed HO_3.out) (by decide)) (fun k_ hk => ⟨hk.1, hk.2⟩))).1 k_ hk_.symm) ?aF ?aO ?aB ?aS ?aL ?_; (case aP => exact Kd.M_row (Kd.R_mono (Kd.R_tight rfl (Kd.R_mono (ok' := fun k_ => ((fun k_ => some k_ ≠ (v337 : Value).ownBlock)) k_ ∧ some k_ ≠ (u3 : Value).ownBlock) (Kd.R_apart' (HO_11.out) (Kd.S_typed HO_3.out) (by decide)) (fun k_ hk => ⟨hk.1, hk.2⟩))) (fun _ h_ => h_))); (case aB => exact (by repeat (first | (with_reducible first | exact HB.out | apply below_alloc | apply pw_below_drewN | apply below_drew1) | exact HB.out))); (case aF => exact (fun k_ hk => Kd.fresh' (Kd.R_lt (by (with_reducible repeat (first | apply Kd.R_alloc | apply Kd.R_drewN | apply Kd.R_drew)); exact HO_4.out)) k_ hk)); (case aO => exact (by (with_reducible repeat (first | apply Kd.S_alloc | apply Kd.S_drewN | apply Kd.S_drew)); exact Kd.S_mono HO_3.out (fun k_ hk => ⟨hk.1, fun e_ => hk.2 e_⟩))); (case aS => exact (below_size (by repeat (first | (with_reducible first | exact HB.out | apply below_alloc | apply pw_below_drewN | apply below_drew1) | exact HB.out)))); (case aL => have := LMc63.out; omega); intro v350 w64 ho hb hg hat; rw [← Ny349.out] at ho; have n0_ := Aside0.mk (Kd.R_over' (by (with_reducible repeat (first | apply Kd.R_alloc | apply Kd.R_drewN | apply Kd.R_drew)); exact HO_4.out) (Kd.S_typed (by (with_reducible repeat (first | apply Kd.S_alloc | apply Kd.S_drewN | apply Kd.S_drew)); exact HO_3.out)) (by decide) hg); have n1_ := Aside0.mk (hb); have n2_ := Aside0.mk (ho); clear HO_4; clear HB; clear HO_3; clear HO_11; have HO_4 := n0_; have HB := n1_; have HO351 := n2_; clear n0_ n1_ n2_; clear ho hb hg hat))
        go_roundg k3
        case measure => have := HK1.out; have := HK2.out; have := HK3.out; omega
        case rel => exact ⟨(y349), (wrap64 (x9_2 + 1)), (by first | rfl | (simp; done) | (simp [*]; done)), H', ⟨by have := HK1.out; have := HK2.out; have := HK3.out; omega⟩, ⟨by (with_reducible repeat (first | apply Kd.S_alloc | apply Kd.S_drewN | apply Kd.S_drew)); exact HO351.out⟩, ⟨by (with_reducible repeat (first | apply Kd.R_alloc | apply Kd.R_drewN | apply Kd.R_drew)); exact Kd.R_mono HO_4.out (fun _ hk => trivial)⟩, ⟨by repeat (first | (with_reducible first | exact HB.out | apply below_alloc | apply pw_below_drewN | apply below_drew1) | exact HB.out)⟩⟩
       rw [if_pos c43] at H
       have c43b0 : decide (x60_3 < (l0.length : Int)) = true := decide_eq_true c43
       clear c43
       by_cases c44 : 0 ≤ x60_3
       rotate_left
       ·
        rw [if_neg c44] at H
        exact absurd H (by simp)
       rw [if_pos c44] at H
       have c44b0 : decide (0 ≤ x60_3) = true := decide_eq_true c44
       clear c44
       by_cases c45 : x60_3 < (l0.length : Int)
       rotate_left
       ·
        rw [if_neg c45] at H
        exact absurd H (by simp)
       rw [if_pos c45] at H
       have c45b0 : decide (x60_3 < (l0.length : Int)) = true := decide_eq_true c45
       clear c45
       have c46b0 := eq_true (of_decide_eq_true (by first | (with_reducible assumption) | assumption) : 0 ≤ x60_3)
       obtain ⟨ji47, hji47⟩ : ∃ j_ : Int, (shr .i64 x9_2 x60_3) = j_ := ⟨_, rfl⟩
       replace H : (if x60_3 < (x4_1.length : Int) then (if (((Go.bits .and .i64 (ji47) 1) == 1) != ((Go.bits .and .i64 (rd x4_1 x60_3) x9_2) == 0)) = true then (impl_StagesOf.l2 k3 l0 x3_2 x4_1 (wrap64 (x9_2 + 1))) else (if (Go.bits .and .i64 (ji47) 1) = 1 then (if x11_3.length < 17592186044416 then (impl_StagesOf.l3 k3 l0 x3_2 x4_1 x9_2 x10_3 (x11_3 ++ [(rd_T50 l0 x60_3).f0]) l0 (l0.length : Int) (wrap64 (x60_3 + 1))) else (none)) else (impl_StagesOf.l3 k3 l0 x3_2 x4_1 x9_2 x10_3 x11_3 l0 (l0.length : Int) (wrap64 (x60_3 + 1))))) else (none)) = some r := by first | (rw [hji47] at H; exact H) | (simp only [hji47] at H ⊢; exact H)
       have hji47_ : (x9_2 / 2 ^ min x60_3.toNat 64) = ji47 := hji47
       have hji47z : x60_3 ≤ 64 → (x9_2 / 2 ^ x60_3.toNat) = ji47 := shr_small hji47
       by_cases c48 : x60_3 < (x4_1.length : Int)
       rotate_left
       ·
        rw [if_neg c48] at H
        exact absurd H (by simp)
       rw [if_pos c48] at H
       have c48b0 : decide (x60_3 < (x4_1.length : Int)) = true := decide_eq_true c48
       clear c48
       by_cases c49 : (((Go.bits .and .i64 (ji47) 1) == 1) != ((Go.bits .and .i64 (rd x4_1 x60_3) x9_2) == 0)) = true
       ·
        rw [if_pos c49] at H
        have c49b0 : (((Go.bits .and .i64 (ji47) 1) == 1) != ((Go.bits .and .i64 (rd x4_1 x60_3) x9_2) == 0)) = true := c49
        (try (have c49b1 : decide (((Go.bits .and .i64 (ji47) 1) == 1) = ((Go.bits .and .i64 (rd x4_1 x60_3) x9_2) == 0)) = false := by simpa using c49))
        (try (have c49b2 : (((Go.bits .and .i64 (ji47) 1) == 1) == ((Go.bits .and .i64 (rd x4_1 x60_3) x9_2) == 0)) = false := by simpa using c49))
        (try (have c49b3 : ¬ (((Go.bits .and .i64 (ji47) 1) == 1) = ((Go.bits .and .i64 (rd x4_1 x60_3) x9_2) == 0)) := by simpa using c49))
        clear c49
        have H' := Aside0.mk H
        clear H
        have p352 : 0 ≤ (x60_3 : Int) := of_decide_eq_true (by first | (with_reducible assumption) | assumption)
        have q352 : x60_3 < (l0.length : Int) := of_decide_eq_true (by first | (with_reducible assumption) | assumption)
        obtain ⟨ad352, e352, hx352_0, hx352_1, hx352_2, hx352_3⟩ := at_T50 HR0.out x60_3 p352 q352
        cases e352
        replace hx352_0 := (HB.out.cell (World.block_lt_of_cell? w _ hx352_0)).trans hx352_0
        replace hx352_1 := (HB.out.cell (World.block_lt_of_cell? w _ hx352_1)).trans hx352_1
        replace hx352_2 := (HB.out.cell (World.block_lt_of_cell? w _ hx352_2)).trans hx352_2
        replace hx352_3 := (HB.out.cell (World.block_lt_of_cell? w _ hx352_3)).trans hx352_3
        replace p352 := eq_true p352
        replace q352 := eq_true q352
        go_wp2_with (first | ((with_reducible refine gate_dst (N := 13) rfl ?_); refine box_event ?hg (N := 13) ?hd (cs := #[.int .i64 0, .int .i64 0, .int .i64 0, .int .i64 0]) (t := 50) ?hr ?_; (case hd => rfl); (case hg => rfl); (case hr => first | (go_simp; done) | (go_simp; rfl)); intro gb353 hg w50 hbox hb; have n0_ := Aside0.mk (Kd.S_below (by (with_reducible repeat (first | apply Kd.S_alloc | apply Kd.S_drewN | apply Kd.S_drew)); exact HO_3.out) hb); have n1_ := Aside0.mk (Kd.R_below (by (with_reducible repeat (first | apply Kd.R_alloc | apply Kd.R_drewN | apply Kd.R_drew)); exact HO_4.out) hb); have n2_ := Aside0.mk (Kd.R_below (by (with_reducible repeat (first | apply Kd.R_alloc | apply Kd.R_drewN | apply Kd.R_drew)); exact HO_11.out) hb); have n3_ := Aside0.mk (below_step (by repeat (first | (with_reducible first | exact HB.out | apply below_alloc | apply pw_below_drewN | apply below_drew1) | exact HB.out)) hb); have n4_ := Aside0.mk (hbox); have n5_ := Aside0.mk ((by rw [hg]; exact (below_size (by repeat (first | (with_reducible first | exact HB.out | apply below_alloc | apply pw_below_drewN | apply below_drew1) | exact HB.out))) : w.heap.size ≤ gb353)); have n6_ := Aside0.mk ((by rw [hg]; exact (below_size (by repeat (first | (with_reducible first | exact HB.out | apply below_alloc | apply pw_below_drewN | apply below_drew1) | exact HB.out))) : w.heap.size ≤ gb353)); clear HO_3; clear HO_4; clear HO_11; clear HB; have HO_3 := n0_; have HO_4 := n1_; have HO_11 := n2_; have HB := n3_; have BK353 := n4_; have GW353 := n5_; have GE353 := n6_; clear n0_ n1_ n2_ n3_ n4_ n5_ n6_; clear hb hbox hg; have hcz51_0 : w50.cell? ⟨gb353, 0, none⟩ = some (.int .i64 0) := (blk_cell BK353.out 0).trans rfl; have hcz51_1 : w50.cell? ⟨gb353, 1, none⟩ = some (.int .i64 0) := (blk_cell BK353.out 1).trans rfl; have hcz51_2 : w50.cell? ⟨gb353, 2, none⟩ = some (.int .i64 0) := (blk_cell BK353.out 2).trans rfl; have hcz51_3 : w50.cell? ⟨gb353, 3, none⟩ = some (.int .i64 0) := (blk_cell BK353.out 3).trans rfl; have hfz51_0 := blk_frozen BK353.out 0; have hfz51_1 := blk_frozen BK353.out 1; have hfz51_2 := blk_frozen BK353.out 2; have hfz51_3 := blk_frozen BK353.out 3; obtain ⟨Ao52, co52, eo52⟩ := Kd.R_slice HO_4.out; subst eo52; have p354 : 0 ≤ (x60_3 : Int) := of_decide_eq_true (by first | (with_reducible assumption) | assumption); have q354 : x60_3 < (x4_1.length : Int) := of_decide_eq_true (by first | (with_reducible assumption) | assumption); obtain ⟨ad354, e354, hx354_0⟩ := Kd.at_int (Kd.R_reads' HO_4.out).2.2 x60_3 p354 q354; cases e354; have hn354_0 : ad354.block ≠ gb353 := Kd.own_blk (Kd.R_ne HO_4.out BK353.out (by decide)); have hn354_1 : ad354.block ≠ gb353 := Kd.own_blk (Kd.R_ne HO_4.out BK353.out (by decide)); have hn354_2 : ad354.block ≠ gb353 := Kd.own_blk (Kd.R_ne HO_4.out BK353.out (by decide)); have hn354_3 : ad354.block ≠ gb353 := Kd.own_blk (Kd.R_ne HO_4.out BK353.out (by decide)); replace hx354_0 := (cell_far (p := ⟨gb353, 0, none⟩) (by first | (rw [add_block]; exact hn354_0) | (show (Addr.add _ _).block ≠ _; rw [add_block]; exact hn354_0) | exact hn354_0) (.int .i64 ((rd_T50 l0 x60_3).f0))).trans hx354_0; replace hx354_0 := (cell_far (p := ⟨gb353, 1, none⟩) (by first | (rw [add_block]; exact hn354_1) | (show (Addr.add _ _).block ≠ _; rw [add_block]; exact hn354_1) | exact hn354_1) (.int .i64 ((rd_T50 l0 x60_3).f1))).trans hx354_0; replace hx354_0 := (cell_far (p := ⟨gb353, 2, none⟩) (by first | (rw [add_block]; exact hn354_2) | (show (Addr.add _ _).block ≠ _; rw [add_block]; exact hn354_2) | exact hn354_2) (.int .i64 ((rd_T50 l0 x60_3).f2))).trans hx354_0; replace hx354_0 := (cell_far (p := ⟨gb353, 3, none⟩) (by first | (rw [add_block]; exact hn354_3) | (show (Addr.add _ _).block ≠ _; rw [add_block]; exact hn354_3) | exact hn354_3) (.int .i64 ((rd_T50 l0 x60_3).f3))).trans hx354_0; clear hn354_0; clear hn354_1; clear hn354_2; clear hn354_3; replace p354 := eq_true p354; replace q354 := eq_true q354))
        go_roundg k3
        case measure => have := HK1.out; have := HK2.out; have := HK3.out; omega
        case rel => exact ⟨(x3_2), (wrap64 (x9_2 + 1)), (by first | rfl | (simp; done) | (simp [*]; done)), H', ⟨by have := HK1.out; have := HK2.out; have := HK3.out; omega⟩, ⟨by (with_reducible repeat (first | apply Kd.S_alloc | apply Kd.S_drewN | apply Kd.S_drew)); exact Kd.S_mono (Kd.S_far (p := ⟨gb353, 3, none⟩) (Kd.S_far (p := ⟨gb353, 2, none⟩) (Kd.S_far (p := ⟨gb353, 1, none⟩) (Kd.S_far (p := ⟨gb353, 0, none⟩) (Kd.S_types HO_3.out BK353.out (by decide)) (fun _ hk => hk.2) (.int .i64 ((rd_T50 l0 x60_3).f0))) (fun _ hk => hk.2) (.int .i64 ((rd_T50 l0 x60_3).f1))) (fun _ hk => hk.2) (.int .i64 ((rd_T50 l0 x60_3).f2))) (fun _ hk => hk.2) (.int .i64 ((rd_T50 l0 x60_3).f3))) (fun _ hk => hk.1.1)⟩, ⟨by (with_reducible repeat (first | apply Kd.R_alloc | apply Kd.R_drewN | apply Kd.R_drew)); exact Kd.R_mono (Kd.R_far (p := ⟨gb353, 3, none⟩) (Kd.R_far (p := ⟨gb353, 2, none⟩) (Kd.R_far (p := ⟨gb353, 1, none⟩) (Kd.R_far (p := ⟨gb353, 0, none⟩) (Kd.R_types HO_4.out BK353.out (by decide)) (fun _ hk => hk.2) (.int .i64 ((rd_T50 l0 x60_3).f0))) (fun _ hk => hk.2) (.int .i64 ((rd_T50 l0 x60_3).f1))) (fun _ hk => hk.2) (.int .i64 ((rd_T50 l0 x60_3).f2))) (fun _ hk => hk.2) (.int .i64 ((rd_T50 l0 x60_3).f3))) (fun _ hk => trivial)⟩, ⟨by repeat (first | (with_reducible first | exact HB.out | apply below_alloc | apply pw_below_drewN | apply below_drew1 | refine below_set ?_ GE353.out) | exact HB.out)⟩⟩
       rw [if_neg c49] at H
       have c49b0 : (((Go.bits .and .i64 (ji47) 1) == 1) != ((Go.bits .and .i64 (rd x4_1 x60_3) x9_2) == 0)) = false := by simpa using c49
       (try (have c49b1 : decide (((Go.bits .and .i64 (ji47) 1) == 1) = ((Go.bits .and .i64 (rd x4_1 x60_3) x9_2) == 0)) = true := by simpa using c49))
       (try (have c49b2 : (((Go.bits .and .i64 (ji47) 1) == 1) == ((Go.bits .and .i64 (rd x4_1 x60_3) x9_2) == 0)) = true := by simpa using c49))
       clear c49
       by_cases c53 : (Go.bits .and .i64 (ji47) 1) = 1
       rotate_left
       ·
        rw [if_neg c53] at H
        have c53b0 : ((Go.bits .and .i64 (ji47) 1) == 1) = false := beq_eq_false_iff_ne.mpr c53
        have c53b1 : ((Go.bits .and .i64 (ji47) 1) != 1) = true := bne_iff_ne.mpr c53
        have c49x : ((Go.bits .and .i64 (rd x4_1 x60_3) x9_2) == 0) = false := by have q_ := c49b0; rw [c53b0] at q_; cases hx_ : ((Go.bits .and .i64 (rd x4_1 x60_3) x9_2) == 0) with | false => rfl | true => rw [hx_] at q_; exact absurd q_ (by decide)
        have H' := Aside0.mk H
        clear H
        have p352 : 0 ≤ (x60_3 : Int) := of_decide_eq_true (by first | (with_reducible assumption) | assumption)
        have q352 : x60_3 < (l0.length : Int) := of_decide_eq_true (by first | (with_reducible assumption) | assumption)
        obtain ⟨ad352, e352, hx352_0, hx352_1, hx352_2, hx352_3⟩ := at_T50 HR0.out x60_3 p352 q352
        cases e352
        replace hx352_0 := (HB.out.cell (World.block_lt_of_cell? w _ hx352_0)).trans hx352_0
        replace hx352_1 := (HB.out.cell (World.block_lt_of_cell? w _ hx352_1)).trans hx352_1
        replace hx352_2 := (HB.out.cell (World.block_lt_of_cell? w _ hx352_2)).trans hx352_2
        replace hx352_3 := (HB.out.cell (World.block_lt_of_cell? w _ hx352_3)).trans hx352_3
        replace p352 := eq_true p352
        replace q352 := eq_true q352
        go_wp2_with (first | ((with_reducible refine gate_dst (N := 13) rfl ?_); refine box_event ?hg (N := 13) ?hd (cs := #[.int .i64 0, .int .i64 0, .int .i64 0, .int .i64 0]) (t := 50) ?hr ?_; (case hd => rfl); (case hg => rfl); (case hr => first | (go_simp; done) | (go_simp; rfl)); intro gb353 hg w59 hbox hb; have n0_ := Aside0.mk (Kd.S_below (by (with_reducible repeat (first | apply Kd.S_alloc | apply Kd.S_drewN | apply Kd.S_drew)); exact HO_3.out) hb); have n1_ := Aside0.mk (Kd.R_below (by (with_reducible repeat (first | apply Kd.R_alloc | apply Kd.R_drewN | apply Kd.R_drew)); exact HO_4.out) hb); have n2_ := Aside0.mk (Kd.R_below (by (with_reducible repeat (first | apply Kd.R_alloc | apply Kd.R_drewN | apply Kd.R_drew)); exact HO_11.out) hb); have n3_ := Aside0.mk (below_step (by repeat (first | (with_reducible first | exact HB.out | apply below_alloc | apply pw_below_drewN | apply below_drew1) | exact HB.out)) hb); have n4_ := Aside0.mk (hbox); have n5_ := Aside0.mk ((by rw [hg]; exact (below_size (by repeat (first | (with_reducible first | exact HB.out | apply below_alloc | apply pw_below_drewN | apply below_drew1) | exact HB.out))) : w.heap.size ≤ gb353)); have n6_ := Aside0.mk ((by rw [hg]; exact (below_size (by repeat (first | (with_reducible first | exact HB.out | apply below_alloc | apply pw_below_drewN | apply below_drew1) | exact HB.out))) : w.heap.size ≤ gb353)); clear HO_3; clear HO_4; clear HO_11; clear HB; have HO_3 := n0_; have HO_4 := n1_; have HO_11 := n2_; have HB := n3_; have BK353 := n4_; have GW353 := n5_; have GE353 := n6_; clear n0_ n1_ n2_ n3_ n4_ n5_ n6_; clear hb hbox hg; have hcz60_0 : w59.cell? ⟨gb353, 0, none⟩ = some (.int .i64 0) := (blk_cell BK353.out 0).trans rfl; have hcz60_1 : w59.cell? ⟨gb353, 1, none⟩ = some (.int .i64 0) := (blk_cell BK353.out 1).trans rfl; have hcz60_2 : w59.cell? ⟨gb353, 2, none⟩ = some (.int .i64 0) := (blk_cell BK353.out 2).trans rfl; have hcz60_3 : w59.cell? ⟨gb353, 3, none⟩ = some (.int .i64 0) := (blk_cell BK353.out 3).trans rfl; have hfz60_0 := blk_frozen BK353.out 0; have hfz60_1 := blk_frozen BK353.out 1; have hfz60_2 := blk_frozen BK353.out 2; have hfz60_3 := blk_frozen BK353.out 3; obtain ⟨Ao61, co61, eo61⟩ := Kd.R_slice HO_4.out; subst eo61; have p354 : 0 ≤ (x60_3 : Int) := of_decide_eq_true (by first | (with_reducible assumption) | assumption); have q354 : x60_3 < (x4_1.length : Int) := of_decide_eq_true (by first | (with_reducible assumption) | assumption); obtain ⟨ad354, e354, hx354_0⟩ := Kd.at_int (Kd.R_reads' HO_4.out).2.2 x60_3 p354 q354; cases e354; have hn354_0 : ad354.block ≠ gb353 := Kd.own_blk (Kd.R_ne HO_4.out BK353.out (by decide)); have hn354_1 : ad354.block ≠ gb353 := Kd.own_blk (Kd.R_ne HO_4.out BK353.out (by decide)); have hn354_2 : ad354.block ≠ gb353 := Kd.own_blk (Kd.R_ne HO_4.out BK353.out (by decide)); have hn354_3 : ad354.block ≠ gb353 := Kd.own_blk (Kd.R_ne HO_4.out BK353.out (by decide)); replace hx354_0 := (cell_far (p := ⟨gb353, 0, none⟩) (by first | (rw [add_block]; exact hn354_0) | (show (Addr.add _ _).block ≠ _; rw [add_block]; exact hn354_0) | exact hn354_0) (.int .i64 ((rd_T50 l0 x60_3).f0))).trans hx354_0; replace hx354_0 := (cell_far (p := ⟨gb353, 1, none⟩) (by first | (rw [add_block]; exact hn354_1) | (show (Addr.add _ _).block ≠ _; rw [add_block]; exact hn354_1) | exact hn354_1) (.int .i64 ((rd_T50 l0 x60_3).f1))).trans hx354_0; replace hx354_0 := (cell_far (p := ⟨gb353, 2, none⟩) (by first | (rw [add_block]; exact hn354_2) | (show (Addr.add _ _).block ≠ _; rw [add_block]; exact hn354_2) | exact hn354_2) (.int .i64 ((rd_T50 l0 x60_3).f2))).trans hx354_0; replace hx354_0 := (cell_far (p := ⟨gb353, 3, none⟩) (by first | (rw [add_block]; exact hn354_3) | (show (Addr.add _ _).block ≠ _; rw [add_block]; exact hn354_3) | exact hn354_3) (.int .i64 ((rd_T50 l0 x60_3).f3))).trans hx354_0; clear hn354_0; clear hn354_1; clear hn354_2; clear hn354_3; replace p354 := eq_true p354; replace q354 := eq_true q354))
        go_roundg k3
        case measure => have := HK1.out; have := HK2.out; have := HK3.out; omega
        case rel => exact ⟨(x10_3), (x11_3), (wrap64 (x60_3 + 1)), (by first | rfl | (simp; done) | (simp [*]; done)), (by first | rfl | (simp; done) | (simp [*]; done)), H', ⟨by have := HK1.out; have := HK2.out; have := HK3.out; omega⟩, ⟨by (with_reducible repeat (first | apply Kd.S_alloc | apply Kd.S_drewN | apply Kd.S_drew)); exact Kd.S_mono (Kd.S_far (p := ⟨gb353, 3, none⟩) (Kd.S_far (p := ⟨gb353, 2, none⟩) (Kd.S_far (p := ⟨gb353, 1, none⟩) (Kd.S_far (p := ⟨gb353, 0, none⟩) (Kd.S_types HO_3.out BK353.out (by decide)) (fun _ hk => hk.2) (.int .i64 ((rd_T50 l0 x60_3).f0))) (fun _ hk => hk.2) (.int .i64 ((rd_T50 l0 x60_3).f1))) (fun _ hk => hk.2) (.int .i64 ((rd_T50 l0 x60_3).f2))) (fun _ hk => hk.2) (.int .i64 ((rd_T50 l0 x60_3).f3))) (fun _ hk => ⟨hk.1.1, hk.1.2⟩)⟩, ⟨by (with_reducible repeat (first | apply Kd.R_alloc | apply Kd.R_drewN | apply Kd.R_drew)); exact Kd.R_mono (Kd.R_far (p := ⟨gb353, 3, none⟩) (Kd.R_far (p := ⟨gb353, 2, none⟩) (Kd.R_far (p := ⟨gb353, 1, none⟩) (Kd.R_far (p := ⟨gb353, 0, none⟩) (Kd.R_types HO_4.out BK353.out (by decide)) (fun _ hk => hk.2) (.int .i64 ((rd_T50 l0 x60_3).f0))) (fun _ hk => hk.2) (.int .i64 ((rd_T50 l0 x60_3).f1))) (fun _ hk => hk.2) (.int .i64 ((rd_T50 l0 x60_3).f2))) (fun _ hk => hk.2) (.int .i64 ((rd_T50 l0 x60_3).f3))) (fun _ hk => hk.1)⟩, ⟨by (with_reducible repeat (first | apply Kd.R_alloc | apply Kd.R_drewN | apply Kd.R_drew)); exact Kd.R_mono (Kd.R_far (p := ⟨gb353, 3, none⟩) (Kd.R_far (p := ⟨gb353, 2, none⟩) (Kd.R_far (p := ⟨gb353, 1, none⟩) (Kd.R_far (p := ⟨gb353, 0, none⟩) (Kd.R_types HO_11.out BK353.out (by decide)) (fun _ hk => hk.2) (.int .i64 ((rd_T50 l0 x60_3).f0))) (fun _ hk => hk.2) (.int .i64 ((rd_T50 l0 x60_3).f1))) (fun _ hk => hk.2) (.int .i64 ((rd_T50 l0 x60_3).f2))) (fun _ hk => hk.2) (.int .i64 ((rd_T50 l0 x60_3).f3))) (fun _ hk => hk.1)⟩, ⟨by repeat (first | (with_reducible first | exact HB.out | apply below_alloc | apply pw_below_drewN | apply below_drew1 | refine below_set ?_ GE353.out) | exact HB.out)⟩⟩
       rw [if_pos c53] at H
       have c53b0 : ((Go.bits .and .i64 (ji47) 1) == 1) = true := beq_iff_eq.mpr c53
       have c53b1 : ((Go.bits .and .i64 (ji47) 1) != 1) = false := bne_eq_false_iff_eq.mpr c53
       have c49x : ((Go.bits .and .i64 (rd x4_1 x60_3) x9_2) == 0) = true := by have q_ := c49b0; rw [c53b0] at q_; cases hx_ : ((Go.bits .and .i64 (rd x4_1 x60_3) x9_2) == 0) with | true => rfl | false => rw [hx_] at q_; exact absurd q_ (by decide)
       have c49y : (!((Go.bits .and .i64 (rd x4_1 x60_3) x9_2) == 0)) = false := by rw [c49x]; rfl
       clear c53
       by_cases c54 : x11_3.length < 17592186044416
       rotate_left
       ·
        rw [if_neg c54] at H
        exact absurd H (by simp)
       rw [if_pos c54] at H
       have LMc54 := Aside0.mk c54
       clear c54
       obtain ⟨y355, hy355⟩ : ∃ y_ : List Int, y_ = (x11_3 ++ [(rd_T50 l0 x60_3).f0]) := ⟨_, rfl⟩
       replace H : (impl_StagesOf.l3 k3 l0 x3_2 x4_1 x9_2 x10_3 y355 l0 (l0.length : Int) (wrap64 (x60_3 + 1))) = some r := by first | (rw [hy355]; with_reducible exact H) | (have H2_ := (Option.bind_some _ _).symm.trans H; rw [hy355]; with_reducible exact H2_) | (have H2_ := (Option.bind_some _ _).symm.trans H; with_reducible exact H2_) | with_reducible exact H | (rw [hy355]; exact H) | exact H
       have Ny355 := Aside0.mk hy355
       clear hy355
       have H' := Aside0.mk H
       clear H
       have p352 : 0 ≤ (x60_3 : Int) := of_decide_eq_true (by first | (with_reducible assumption) | assumption)
       have q352 : x60_3 < (l0.length : Int) := of_decide_eq_true (by first | (with_reducible assumption) | assumption)
       obtain ⟨ad352, e352, hx352_0, hx352_1, hx352_2, hx352_3⟩ := at_T50 HR0.out x60_3 p352 q352
       cases e352
       replace hx352_0 := (HB.out.cell (World.block_lt_of_cell? w _ hx352_0)).trans hx352_0
       replace hx352_1 := (HB.out.cell (World.block_lt_of_cell? w _ hx352_1)).trans hx352_1
       replace hx352_2 := (HB.out.cell (World.block_lt_of_cell? w _ hx352_2)).trans hx352_2
       replace hx352_3 := (HB.out.cell (World.block_lt_of_cell? w _ hx352_3)).trans hx352_3
       replace p352 := eq_true p352
       replace q352 := eq_true q352
       go_wp2_with (first | ((with_reducible refine gate_dst (N := 13) rfl ?_); refine box_event ?hg (N := 13) ?hd (cs := #[.int .i64 0, .int .i64 0, .int .i64 0, .int .i64 0]) (t := 50) ?hr ?_; (case hd => rfl); (case hg => rfl); (case hr => first | (go_simp; done) | (go_simp; rfl)); intro gb353 hg w55 hbox hb; have n0_ := Aside0.mk (Kd.S_below (by (with_reducible repeat (first | apply Kd.S_alloc | apply Kd.S_drewN | apply Kd.S_drew)); exact HO_3.out) hb); have n1_ := Aside0.mk (Kd.R_below (by (with_reducible repeat (first | apply Kd.R_alloc | apply Kd.R_drewN | apply Kd.R_drew)); exact HO_4.out) hb); have n2_ := Aside0.mk (Kd.R_below (by (with_reducible repeat (first | apply Kd.R_alloc | apply Kd.R_drewN | apply Kd.R_drew)); exact HO_11.out) hb); have n3_ := Aside0.mk (below_step (by repeat (first | (with_reducible first | exact HB.out | apply below_alloc | apply pw_below_drewN | apply below_drew1) | exact HB.out)) hb); have n4_ := Aside0.mk (hbox); have n5_ := Aside0.mk ((by rw [hg]; exact (below_size (by repeat (first | (with_reducible first | exact HB.out | apply below_alloc | apply pw_below_drewN | apply below_drew1) | exact HB.out))) : w.heap.size ≤ gb353)); have n6_ := Aside0.mk ((by rw [hg]; exact (below_size (by repeat (first | (with_reducible first | exact HB.out | apply below_alloc | apply pw_below_drewN | apply below_drew1) | exact HB.out))) : w.heap.size ≤ gb353)); clear HO_3; clear HO_4; clear HO_11; clear HB; have HO_3 := n0_; have HO_4 := n1_; have HO_11 := n2_; have HB := n3_; have BK353 := n4_; have GW353 := n5_; have GE353 := n6_; clear n0_ n1_ n2_ n3_ n4_ n5_ n6_; clear hb hbox hg; have hcz56_0 : w55.cell? ⟨gb353, 0, none⟩ = some (.int .i64 0) := (blk_cell BK353.out 0).trans rfl; have hcz56_1 : w55.cell? ⟨gb353, 1, none⟩ = some (.int .i64 0) := (blk_cell BK353.out 1).trans rfl; have hcz56_2 : w55.cell? ⟨gb353, 2, none⟩ = some (.int .i64 0) := (blk_cell BK353.out 2).trans rfl; have hcz56_3 : w55.cell? ⟨gb353, 3, none⟩ = some (.int .i64 0) := (blk_cell BK353.out 3).trans rfl; have hfz56_0 := blk_frozen BK353.out 0; have hfz56_1 := blk_frozen BK353.out 1; have hfz56_2 := blk_frozen BK353.out 2; have hfz56_3 := blk_frozen BK353.out 3; obtain ⟨Ao57, co57, eo57⟩ := Kd.R_slice HO_4.out; subst eo57; have p354 : 0 ≤ (x60_3 : Int) := of_decide_eq_true (by first | (with_reducible assumption) | assumption); have q354 : x60_3 < (x4_1.length : Int) := of_decide_eq_true (by first | (with_reducible assumption) | assumption); obtain ⟨ad354, e354, hx354_0⟩ := Kd.at_int (Kd.R_reads' HO_4.out).2.2 x60_3 p354 q354; cases e354; have hn354_0 : ad354.block ≠ gb353 := Kd.own_blk (Kd.R_ne HO_4.out BK353.out (by decide)); have hn354_1 : ad354.block ≠ gb353 := Kd.own_blk (Kd.R_ne HO_4.out BK353.out (by decide)); have hn354_2 : ad354.block ≠ gb353 := Kd.own_blk (Kd.R_ne HO_4.out BK353.out (by decide)); have hn354_3 : ad354.block ≠ gb353 := Kd.own_blk (Kd.R_ne HO_4.out BK353.out (by decide)); replace hx354_0 := (cell_far (p := ⟨gb353, 0, none⟩) (by first | (rw [add_block]; exact hn354_0) | (show (Addr.add _ _).block ≠ _; rw [add_block]; exact hn354_0) | exact hn354_0) (.int .i64 ((rd_T50 l0 x60_3).f0))).trans hx354_0; replace hx354_0 := (cell_far (p := ⟨gb353, 1, none⟩) (by first | (rw [add_block]; exact hn354_1) | (show (Addr.add _ _).block ≠ _; rw [add_block]; exact hn354_1) | exact hn354_1) (.int .i64 ((rd_T50 l0 x60_3).f1))).trans hx354_0; replace hx354_0 := (cell_far (p := ⟨gb353, 2, none⟩) (by first | (rw [add_block]; exact hn354_2) | (show (Addr.add _ _).block ≠ _; rw [add_block]; exact hn354_2) | exact hn354_2) (.int .i64 ((rd_T50 l0 x60_3).f2))).trans hx354_0; replace hx354_0 := (cell_far (p := ⟨gb353, 3, none⟩) (by first | (rw [add_block]; exact hn354_3) | (show (Addr.add _ _).block ≠ _; rw [add_block]; exact hn354_3) | exact hn354_3) (.int .i64 ((rd_T50 l0 x60_3).f3))).trans hx354_0; clear hn354_0; clear hn354_1; clear hn354_2; clear hn354_3; replace p354 := eq_true p354; replace q354 := eq_true q354) | ((with_reducible refine gate_builtin (b := .append) (xs := #[.tmp 80, .tmp 83]) rfl ?_); at_builtin; refine Kd.R_append (Kd.int .i64) (w0 := w) w.heap.size rfl (.tmp 80) (.tmp 83) 29 3 (.int .i64 0) 8 rfl Try.underlying29 info3 rfl (by decide) (by omega) u11 x11_3 ((rd_T50 l0 x60_3).f0) [.int .i64 ((rd_T50 l0 x60_3).f0)] (fun k_ => some k_ ≠ (.slice (some ad354) x4_1.length co57 : Value).ownBlock) (fun _ => False) rfl (by first | (go_simp; done) | (go_simp; rfl)) ?aP (fun _ hk => hk.elim) ?aF ?aO ?aB ?aS ?aL ?_; (case aP => exact rfl); (case aB => exact (by repeat (first | (with_reducible first | exact HB.out | apply below_alloc | apply pw_below_drewN | apply below_drew1 | refine below_set ?_ GE353.out) | exact HB.out))); (case aF => exact (fun k_ hk => Kd.fresh' (Kd.R_lt (by (with_reducible repeat (first | apply Kd.R_alloc | apply Kd.R_drewN | apply Kd.R_drew)); exact (Kd.R_mono (Kd.R_far (p := ⟨gb353, 3, none⟩) (Kd.R_far (p := ⟨gb353, 2, none⟩) (Kd.R_far (p := ⟨gb353, 1, none⟩) (Kd.R_far (p := ⟨gb353, 0, none⟩) (Kd.R_types HO_4.out BK353.out (by decide)) (fun _ hk => hk.2) (.int .i64 ((rd_T50 l0 x60_3).f0))) (fun _ hk => hk.2) (.int .i64 ((rd_T50 l0 x60_3).f1))) (fun _ hk => hk.2) (.int .i64 ((rd_T50 l0 x60_3).f2))) (fun _ hk => hk.2) (.int .i64 ((rd_T50 l0 x60_3).f3))) (fun _ h_ => h_.1)))) k_ hk)); (case aO => exact (by (with_reducible repeat (first | apply Kd.R_alloc | apply Kd.R_drewN | apply Kd.R_drew)); exact Kd.R_mono (Kd.R_far (p := ⟨gb353, 3, none⟩) (Kd.R_far (p := ⟨gb353, 2, none⟩) (Kd.R_far (p := ⟨gb353, 1, none⟩) (Kd.R_far (p := ⟨gb353, 0, none⟩) (Kd.R_types HO_11.out BK353.out (by decide)) (fun _ hk => hk.2) (.int .i64 ((rd_T50 l0 x60_3).f0))) (fun _ hk => hk.2) (.int .i64 ((rd_T50 l0 x60_3).f1))) (fun _ hk => hk.2) (.int .i64 ((rd_T50 l0 x60_3).f2))) (fun _ hk => hk.2) (.int .i64 ((rd_T50 l0 x60_3).f3))) (fun _ hk => hk.1))); (case aS => exact (below_size (by repeat (first | (with_reducible first | exact HB.out | apply below_alloc | apply pw_below_drewN | apply below_drew1 | refine below_set ?_ GE353.out) | exact HB.out)))); (case aL => have := LMc54.out; omega); intro v356 w58 ho hb hg hat; rw [← Ny355.out] at ho; have n0_ := Aside0.mk (Kd.S_after (ok := (fun k_ => some k_ ≠ (.slice (some ad354) x4_1.length co57 : Value).ownBlock)) (by (with_reducible repeat (first | apply Kd.S_alloc | apply Kd.S_drewN | apply Kd.S_drew)); exact Kd.S_mono (Kd.S_far (p := ⟨gb353, 3, none⟩) (Kd.S_far (p := ⟨gb353, 2, none⟩) (Kd.S_far (p := ⟨gb353, 1, none⟩) (Kd.S_far (p := ⟨gb353, 0, none⟩) (Kd.S_types HO_3.out BK353.out (by decide)) (fun _ hk => hk.2) (.int .i64 ((rd_T50 l0 x60_3).f0))) (fun _ hk => hk.2) (.int .i64 ((rd_T50 l0 x60_3).f1))) (fun _ hk => hk.2) (.int .i64 ((rd_T50 l0 x60_3).f2))) (fun _ hk => hk.2) (.int .i64 ((rd_T50 l0 x60_3).f3))) (fun _ hk => ⟨hk.1.1, hk.1.2⟩)) hg hat); have n1_ := Aside0.mk (Kd.R_after (ok := (fun _ => True)) (by (with_reducible repeat (first | apply Kd.R_alloc | apply Kd.R_drewN | apply Kd.R_drew)); exact Kd.R_mono (Kd.R_far (p := ⟨gb353, 3, none⟩) (Kd.R_far (p := ⟨gb353, 2, none⟩) (Kd.R_far (p := ⟨gb353, 1, none⟩) (Kd.R_far (p := ⟨gb353, 0, none⟩) (Kd.R_types HO_4.out BK353.out (by decide)) (fun _ hk => hk.2) (.int .i64 ((rd_T50 l0 x60_3).f0))) (fun _ hk => hk.2) (.int .i64 ((rd_T50 l0 x60_3).f1))) (fun _ hk => hk.2) (.int .i64 ((rd_T50 l0 x60_3).f2))) (fun _ hk => hk.2) (.int .i64 ((rd_T50 l0 x60_3).f3))) (fun _ hk => ⟨trivial, hk.1⟩)) hg hat); have n2_ := Aside0.mk (blk_grown (g := gb353) (o := .cells #[.int .i64 ((rd_T50 l0 x60_3).f0), .int .i64 ((rd_T50 l0 x60_3).f1), .int .i64 ((rd_T50 l0 x60_3).f2), .int .i64 ((rd_T50 l0 x60_3).f3)] 50 (0, 0)) (by (with_reducible repeat (first | refine blk_drewN ?_ _ | refine blk_drew ?_ | refine blk_alloc ?_ _)); refine blk_put (cs := #[.int .i64 ((rd_T50 l0 x60_3).f0), .int .i64 ((rd_T50 l0 x60_3).f1), .int .i64 ((rd_T50 l0 x60_3).f2), .int .i64 0]) ?_ 3 _ rfl; (with_reducible repeat (first | refine blk_drewN ?_ _ | refine blk_drew ?_ | refine blk_alloc ?_ _)); refine blk_put (cs := #[.int .i64 ((rd_T50 l0 x60_3).f0), .int .i64 ((rd_T50 l0 x60_3).f1), .int .i64 0, .int .i64 0]) ?_ 2 _ rfl; (with_reducible repeat (first | refine blk_drewN ?_ _ | refine blk_drew ?_ | refine blk_alloc ?_ _)); refine blk_put (cs := #[.int .i64 ((rd_T50 l0 x60_3).f0), .int .i64 0, .int .i64 0, .int .i64 0]) ?_ 1 _ rfl; (with_reducible repeat (first | refine blk_drewN ?_ _ | refine blk_drew ?_ | refine blk_alloc ?_ _)); refine blk_put (cs := #[.int .i64 0, .int .i64 0, .int .i64 0, .int .i64 0]) ?_ 0 _ rfl; (with_reducible repeat (first | refine blk_drewN ?_ _ | refine blk_drew ?_ | refine blk_alloc ?_ _)); exact BK353.out) hg (Kd.R_ne HO_11.out BK353.out (by decide))); have n3_ := Aside0.mk (hb); have n4_ := Aside0.mk (ho); clear HO_3; clear HO_4; clear BK353; clear HB; clear HO_11; have HO_3 := n0_; have HO_4 := n1_; have BK353 := n2_; have HB := n3_; have HO357 := n4_; clear n0_ n1_ n2_ n3_ n4_; clear ho hb hg hat))
       go_roundg k3
       case measure => have := HK1.out; have := HK2.out; have := HK3.out; omega
       case rel => exact ⟨(x10_3), (y355), (wrap64 (x60_3 + 1)), (by first | rfl | (simp; done) | (simp [*]; done)), (by first | rfl | (simp; done) | (simp [*]; done)), H', ⟨by have := HK1.out; have := HK2.out; have := HK3.out; omega⟩, ⟨by (with_reducible repeat (first | apply Kd.S_alloc | apply Kd.S_drewN | apply Kd.S_drew)); exact HO_3.out⟩, ⟨by (with_reducible repeat (first | apply Kd.R_alloc | apply Kd.R_drewN | apply Kd.R_drew)); exact Kd.R_mono HO_4.out (fun _ hk => hk.2)⟩, ⟨by (with_reducible repeat (first | apply Kd.R_alloc | apply Kd.R_drewN | apply Kd.R_drew)); exact HO357.out⟩, ⟨by repeat (first | (with_reducible first | exact HB.out | apply below_alloc | apply pw_below_drewN | apply below_drew1 | refine below_set ?_ GE353.out) | exact HB.out)⟩⟩
end Go.Proofs.Ytldmhlpfkclclaa.PFnStages
