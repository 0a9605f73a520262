/- What arguments of our laws hold, opened: slices of structs of four ints, slices of slices of ints. Each theorem states its own conditions. -/
import Derived.Deep.Slices
import Derived.Deep.Matrix
import Derived.Lib.SmallJoins
import Derived.SizedLaws
import Derived.Test.YtldmhlpfkclclaaVFnExactStagesOfWords
namespace Go.Proofs.Ytldmhlpfkclclaa.Open
open Go.ChangeShapes Go.WideShapes Go.ChangeAt Go.RowKit Go.Joins Go.Deep Go.Proofs.YtldmhlpfkclclaaW.PrintWords
set_option linter.unusedVariables false
set_option linter.unusedSimpArgs false
variable {H : Type} {enc : TypeId × Value → H} {P : Program} {W : World} {base : Nat} {held : Bool}
abbrev Q4 := Int × Int × Int × Int
def q4 (x : Q4) : List Value := [.int .i64 x.1, .int .i64 x.2.1, .int .i64 x.2.2.1, .int .i64 x.2.2.2]
def Wf4 (x : Q4) : Prop := (Lit.int .i64 x.1).wf = true ∧ (Lit.int .i64 x.2.1).wf = true ∧ (Lit.int .i64 x.2.2.1).wf = true ∧ (Lit.int .i64 x.2.2.2).wf = true
theorem list4 {α : Type} {l : List α} (h : l.length = 4) : ∃ a b c d, l = [a, b, c, d] := by
  match l, h with
  | [a, b, c, d], _ => exact ⟨a, b, c, d, rfl⟩
theorem paths {t e : TypeId} {f0 f1 f2 f3 : Field} {a : Option Addr} {len cap : Nat} {d : DataW H} {ps : List MemPlace} {ts : List TypeId} {ds : List (DataW H)} {j : Nat}
    (hsz : (DataW.weightsEach P ts ds).all (· ≤ reachBytes) = true) (htj : ts[j]? = some t) (hdj : ds[j]? = some d)
    (ht : P.underlying t = some (.slice e)) (he : P.underlying e = some (.struct #[f0, f1, f2, f3])) (hone : oneCellFields P #[f0, f1, f2, f3] = true) (hC : P.cellsOf e = 4) (hB : P.bytesOf e = 32)
    (u0 : P.underlying f0.type = some (.int .i64)) (u1 : P.underlying f1.type = some (.int .i64)) (u2 : P.underlying f2.type = some (.int .i64)) (u3 : P.underlying f3.type = some (.int .i64))
    (h : DataW.Trod enc P W base (fun _ => true) held t (.slice a len cap) d ps) :
    ∃ xs : List Q4, xs.length = len ∧ len ≤ cap ∧ ReadsRow (fun x cs => cs = q4 x) 4 W a len xs ∧ (∀ x ∈ xs, Wf4 x) ∧ len * 32 ≤ 140737488351232 := by
  obtain ⟨fuel, hf⟩ := h
  rcases open_slice ht hf with ⟨hcs, hd⟩ | ⟨x, l, c, m, n, DD, Pl, hcs, hb, hl, hm, hmm, hd, hx⟩
  · simp [Value.cells] at hcs
    obtain ⟨rfl, rfl, rfl⟩ := hcs
    exact ⟨[], rfl, Nat.le_refl _, ⟨rfl, by omega, fun hp => absurd hp (by omega)⟩, by simp, by omega⟩
  · simp [Value.cells] at hcs
    obtain ⟨rfl, rfl, rfl⟩ := hcs
    have hml : m = cap := by rw [hmm]; rfl
    subst hml
    obtain ⟨hd1, _⟩ := Prod.mk.inj hd
    have hsz' : len * 32 ≤ 140737488351232 := by
      rw [hd1] at hdj
      have z := sized_slice hsz htj hdj ht
      rw [hB] at z
      simp only [List.length_map, List.length_range] at z
      have : reachBytes = 140737488351232 := rfl
      have : len * 32 ≤ (len + (m - len)) * 32 := Nat.mul_le_mul_right _ (by omega)
      omega
    have each : ∀ i, i < len → ∃ q : Q4, (∀ k u, (q4 q)[k]? = some u → W.cell? (x.add (i * 4 + k)) = some u) ∧ Wf4 q := by
      intro i hi
      obtain ⟨cs', h1, h2⟩ := hx i (by omega)
      rw [hC] at h1
      obtain ⟨_, hlen, hcell⟩ := World.cells?_some h1
      obtain ⟨c0, c1, c2, c3, rfl⟩ := list4 hlen
      obtain ⟨y0, y1, y2, y3, n', _, _, g0, g1, g2, g3⟩ := trod_struct4 he h2
      obtain ⟨o0, k0⟩ := hone_of hone 0 f0 rfl
      obtain ⟨o1, k1⟩ := hone_of hone 1 f1 rfl
      obtain ⟨o2, k2⟩ := hone_of hone 2 f2 rfl
      obtain ⟨o3, k3⟩ := hone_of hone 3 f3 rfl
      rw [o0, k0] at g0
      rw [o1, k1] at g1
      rw [o2, k2] at g2
      rw [o3, k3] at g3
      obtain ⟨n0, e0, _, w0⟩ := DataW.trod_int u0 g0
      obtain ⟨n1, e1, _, w1⟩ := DataW.trod_int u1 g1
      obtain ⟨n2, e2, _, w2⟩ := DataW.trod_int u2 g2
      obtain ⟨n3, e3, _, w3⟩ := DataW.trod_int u3 g3
      simp at e0 e1 e2 e3
      subst e0 e1 e2 e3
      refine ⟨(n0, n1, n2, n3), fun k u hk => ?_, w0, w1, w2, w3⟩
      have hk4 : k < 4 := by
        rcases Nat.lt_or_ge k 4 with h | h
        · exact h
        · simp [q4, List.getElem?_eq_none (show ([Value.int .i64 n0, .int .i64 n1, .int .i64 n2, .int .i64 n3] : List Value).length ≤ k from h)] at hk
      rw [← Go.Deep.add_add, hcell k hk4]
      exact hk
    obtain ⟨q, hq⟩ := choose_lt each
    refine ⟨(List.range len).map q, by simp, hl, ⟨by simp, by unfold maxLen at hm; omega, fun _ => ⟨x, rfl, fun j p hj => ?_⟩⟩, ?_, hsz'⟩
    · rw [List.getElem?_map] at hj
      obtain ⟨i, hi, rfl⟩ := Option.map_eq_some_iff.1 hj
      obtain ⟨hlt, rfl⟩ : i < len ∧ i = j := by
        rw [List.getElem?_eq_some_iff] at hi
        obtain ⟨hi1, hi2⟩ := hi
        simp at hi1 hi2
        exact ⟨by omega, hi2.symm⟩
      exact ⟨_, rfl, rfl, (hq i hlt).1⟩
    · intro p hp
      obtain ⟨i, hi, rfl⟩ := List.mem_map.1 hp
      exact (hq i (List.mem_range.1 hi)).2
theorem rows_len {q : TypeId} {W : World} {a : Option Addr} {n : Nat} {xs : List (List Int)} (h : Kd.C (Kd.slice q (Kd.int .i64)) W a n xs) : ∀ s ∈ xs, s.length ≤ 9223372036854775807 := by
  intro s hs
  obtain ⟨i, hi, rfl⟩ := List.getElem_of_mem hs
  have hn : xs.length = n := h.1
  obtain ⟨ad, c, e, _, hK, hc0⟩ := Kd.C_get h ([] : List Int) (i : Int) (by omega) (by omega)
  obtain ⟨A0, c0, rfl, l0, g0⟩ := hK
  have hm := g0.2.1
  have he : xs.getD (i : Int).toNat [] = xs[i] := by rw [Int.toNat_natCast, List.getD_eq_getElem?_getD, List.getElem?_eq_getElem hi]; rfl
  rw [he] at hm
  exact hm
theorem int_rows {t e q : TypeId} {a : Option Addr} {len cap : Nat} {d : DataW H} {ps : List MemPlace} {ts : List TypeId} {ds : List (DataW H)} {j : Nat}
    (hsz : (DataW.weightsEach P ts ds).all (· ≤ reachBytes) = true) (htj : ts[j]? = some t) (hdj : ds[j]? = some d)
    (ht : P.underlying t = some (.slice e)) (he : P.underlying e = some (.slice q)) (hq : P.underlying q = some (.int .i64)) (ce : P.cellsOf e = 1) (cq : P.cellsOf q = 1) (hB : P.bytesOf e = 24)
    (h : DataW.Trod enc P W base (fun _ => true) held t (.slice a len cap) d ps) :
    ∃ xs : List (List Int), xs.length = len ∧ len ≤ cap ∧ Kd.C (Kd.slice q (Kd.int .i64)) W a len xs ∧ len * 24 ≤ 140737488351232 := by
  obtain ⟨fuel, hf⟩ := h
  rcases open_int_rows ht he hq ce cq hf with ⟨hcs, hd⟩ | ⟨x, l, c, A, L, C, Z, hcs, hb, hl, hm, hd, hx⟩
  · simp [Value.cells] at hcs
    obtain ⟨rfl, rfl, rfl⟩ := hcs
    exact ⟨[], rfl, Nat.le_refl _, ⟨rfl, by omega, fun hp => absurd hp (by omega)⟩, by omega⟩
  · simp [Value.cells] at hcs
    obtain ⟨rfl, rfl, rfl⟩ := hcs
    obtain ⟨hd1, _⟩ := Prod.mk.inj hd
    have hsz' : len * 24 ≤ 140737488351232 := by
      rw [hd1] at hdj
      have z := sized_slice hsz htj hdj ht
      rw [hB] at z
      simp only [List.length_map, List.length_range] at z
      have : reachBytes = 140737488351232 := rfl
      have : len * 24 ≤ (len + (cap - len)) * 24 := Nat.mul_le_mul_right _ (by omega)
      omega
    refine ⟨(List.range len).map fun i => (Z i).take (L i), by simp, hl, ⟨by simp, by unfold maxLen at hm; omega, fun _ => ⟨x, rfl, fun j p hj => ?_⟩⟩, hsz'⟩
    rw [List.getElem?_map] at hj
    obtain ⟨i, hi, rfl⟩ := Option.map_eq_some_iff.1 hj
    obtain ⟨hlt, rfl⟩ : i < len ∧ i = j := by
      rw [List.getElem?_eq_some_iff] at hi
      obtain ⟨hi1, hi2⟩ := hi
      simp at hi1 hi2
      exact ⟨by omega, hi2.symm⟩
    obtain ⟨hc, h1, h2, h3, h4, h5, h6⟩ := hx i (by omega)
    have hlen : ((Z i).take (L i)).length = L i := by rw [List.length_take]; omega
    refine ⟨[.slice (A i) (L i) (C i)], rfl, ⟨A i, C i, by rw [hlen], by omega, ?_⟩, ?_⟩
    · rw [hlen]
      refine Kd.C_of_reads (d := (0 : Int)) (h1 := fun _ => rfl) ⟨hlen, by unfold maxLen at h2; omega, fun hp => ?_⟩
      rcases hA : A i with _ | a'
      · have := h5 hA; omega
      · refine ⟨a', rfl, fun c hc => ?_⟩
        have := (h6 a' hA).2 c (by omega)
        rw [this]
        simp [List.getD_eq_getElem?_getD, List.getElem?_take, hc]
    · intro k u hk
      match k, hk with
      | 0, hk =>
        simp at hk
        subst hk
        show W.cell? (x.add (i * 1 + 0)) = _
        simpa using hc
      | k + 1, hk => simp at hk
end Go.Proofs.Ytldmhlpfkclclaa.Open
