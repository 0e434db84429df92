/- An argument of type []api.Pair, and one of type [][]string, opened. -/
import Derived.Test.YtnkblimmlkidcaaDoorOpenAt
import Derived.Test.YtnkblimmlkidcaaDoorCodPairP
namespace Go.Proofs.YtnkblimmlkidcaaDoor
open Go.ChangeShapes Go.WideShapes Go.ChangeAt Go.RowKit Go.Deep

theorem open_prl {H : Type} {enc : TypeId × Value → H} {P : Program} {W : World} {b0 : Nat} {t e : TypeId} {f0 f1 : Field} {v : Value} {d : DataW H} {p : List MemPlace}
    (ht : P.underlying t = some (.slice e)) (he : P.underlying e = some (.struct #[f0, f1])) (hce : P.cellsOf e = 2) (ho0 : f0.offset = 0) (ho1 : f1.offset = 1)
    (hs0 : P.underlying f0.type = some .string) (hs1 : P.underlying f1.type = some .string) (hc0 : P.cellsOf f0.type = 1) (hc1 : P.cellsOf f1.type = 1)
    (hval : Value.okWide P W .any b0 t v) (hd : DataW.Trod enc P W 0 (fun _ => true) true t v d p) :
    ∃ A l c, v = .slice A (l : List (ByteArray × ByteArray)).length c ∧ PairsAt W A l ∧ l.length ≤ c ∧ l.length ≤ 9223372036854775807 ∧ ∀ p ∈ l, p.1.size ≤ 9223372036854775807 ∧ p.2.size ≤ 9223372036854775807 := by
  obtain ⟨A, len, cap, rfl, hl, hm, hi⟩ := open_at' ht (by omega) hval hd
  have each : ∀ i, i < len → ∃ q : ByteArray × ByteArray, (∃ b o, A = some ⟨b, o, none⟩ ∧ W.cell? ⟨b, o + i * 2, none⟩ = some (.string q.1) ∧ W.cell? ⟨b, o + i * 2 + 1, none⟩ = some (.string q.2)) ∧ q.1.size ≤ 9223372036854775807 ∧ q.2.size ≤ 9223372036854775807 := by
    intro i hil
    obtain ⟨b, o, n, y, cs, hA, hcell, hcl, hy⟩ := hi i hil
    rw [hce] at hcell hcl
    obtain ⟨s0, e0, z0⟩ := field_str he hy 0 f0 rfl hs0 hc0
    obtain ⟨s1, e1, z1⟩ := field_str he hy 1 f1 rfl hs1 hc1
    rw [ho0] at e0
    rw [ho1] at e1
    have h0 := hcell 0 (by omega)
    have h1 := hcell 1 (by omega)
    rw [e0, Nat.add_zero] at h0
    rw [e1] at h1
    exact ⟨(s0, s1), ⟨b, o, hA, h0, h1⟩, z0, z1⟩
  obtain ⟨f, hf⟩ := choose_lt each
  have hlen : ((List.range len).map f).length = len := by simp
  refine ⟨A, (List.range len).map f, cap, by rw [hlen], ?_, by rw [hlen]; exact hl, by rw [hlen]; omega, fun p hp => ?_⟩
  · intro i hi'
    have h := (hf i (by simpa using hi')).1
    simpa using h
  · simp only [List.mem_map, List.mem_range] at hp
    obtain ⟨i, hi', rfl⟩ := hp
    exact (hf i hi').2
/-- A slice's address reads as a list of lists of strings. -/
def Strss (w : World) (A : Option Addr) (l : List (List ByteArray)) : Prop :=
  ∀ i, (h : i < l.length) → ∃ b o A' c', A = some ⟨b, o, none⟩ ∧ w.cell? ⟨b, o + i, none⟩ = some (.slice A' l[i].length c') ∧ Strs w A' l[i]
theorem Strss.below {w w' : World} {A : Option Addr} {l : List (List ByteArray)} (h : Strss w A l) (hb : Below w.heap.size w w') : Strss w' A l := by
  intro i hi
  obtain ⟨b, o, A', c', e, hc, hs⟩ := h i hi
  exact ⟨b, o, A', c', e, (hb.cell (World.block_lt_of_cell? w _ hc)).trans hc, hs.below hb⟩
theorem open_strss {H : Type} {enc : TypeId × Value → H} {P : Program} {W : World} {b0 : Nat} {t e q : TypeId} {v : Value} {d : DataW H} {p : List MemPlace}
    (ht : P.underlying t = some (.slice e)) (he : P.underlying e = some (.slice q)) (hce : P.cellsOf e = 1) (hq : P.underlying q = some .string) (hcq : P.cellsOf q = 1)
    (hval : Value.okWide P W .any b0 t v) (hd : DataW.Trod enc P W 0 (fun _ => true) true t v d p) :
    ∃ A l c, v = .slice A (l : List (List ByteArray)).length c ∧ Strss W A l ∧ l.length ≤ 9223372036854775807 ∧ ∀ m ∈ l, m.length ≤ 9223372036854775807 := by
  obtain ⟨A, len, cap, rfl, hl, hm, hi⟩ := open_at' ht (by omega) hval hd
  have each : ∀ i, i < len → ∃ q : List ByteArray, (∃ b o A' c', A = some ⟨b, o, none⟩ ∧ W.cell? ⟨b, o + i, none⟩ = some (.slice A' q.length c') ∧ Strs W A' q) ∧ q.length ≤ 9223372036854775807 := by
    intro i hil
    obtain ⟨b, o, n, y, cs, hA, hcell, hcl, hy⟩ := hi i hil
    rw [hce] at hcell hcl
    match cs, hcl with
    | [v0], _ =>
      obtain ⟨A', len', cap', rfl, hl', hm', hi'⟩ := open_at he (by omega) hy
      have each2 : ∀ j, j < len' → ∃ s : ByteArray, ∃ b o, A' = some ⟨b, o, none⟩ ∧ W.cell? ⟨b, o + j, none⟩ = some (.string s) := by
        intro j hj
        obtain ⟨b, o, n, y, cs, hA', hcell', hcl', hy'⟩ := hi' j hj
        rw [hcq] at hcell' hcl'
        obtain ⟨s, h2, _, _⟩ := DataW.trod_string hq hy'
        subst h2
        exact ⟨s, b, o, hA', by simpa using hcell' 0 (by omega)⟩
      obtain ⟨f, hf⟩ := choose_lt each2
      have hlen : ((List.range len').map f).length = len' := by simp
      refine ⟨(List.range len').map f, ⟨b, o, A', cap', hA, ?_, ?_⟩, by rw [hlen]; omega⟩
      · rw [hlen]; simpa using hcell 0 (by omega)
      · intro j hj
        have := hf j (by simpa using hj)
        simpa using this
  obtain ⟨f, hf⟩ := choose_lt each
  have hlen : ((List.range len).map f).length = len := by simp
  refine ⟨A, (List.range len).map f, cap, by rw [hlen], ?_, by rw [hlen]; omega, fun p hp => ?_⟩
  · intro i hi'
    have h := (hf i (by simpa using hi')).1
    simpa using h
  · simp only [List.mem_map, List.mem_range] at hp
    obtain ⟨i, hi', rfl⟩ := hp
    exact (hf i hi').2
end Go.Proofs.YtnkblimmlkidcaaDoor
