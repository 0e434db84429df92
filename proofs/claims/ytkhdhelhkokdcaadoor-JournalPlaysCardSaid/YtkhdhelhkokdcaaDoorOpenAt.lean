/- Arguments that are slices, opened at every index; slices of pairs of strings; slices of slices of strings. -/
import Derived.Test.YtkhdhelhkokdcaaDoorOpenStrs
import Derived.Deep.Slices
namespace Go.Proofs.YtkhdhelhkokdcaaDoor
open Go.ChangeShapes Go.WideShapes Go.ChangeAt Go.RowKit Go.Deep

section
variable {H : Type} {enc : TypeId × Value → H} {P : Program} {W : World}
/-- A slice, its elements' cells and how they read. -/
theorem open_at {t e : TypeId} {fuel : Nat} {v : Value} {x : DataW H × List MemPlace} (ht : P.underlying t = some (.slice e)) (hc : 0 < P.cellsOf e)
    (hf : DataW.trod enc P W 0 (fun _ => true) true fuel t [v] = some x) :
    ∃ A len cap, v = .slice A len cap ∧ len ≤ cap ∧ cap ≤ 9223372036854775807 ∧ ∀ i, i < len → ∃ b o n y cs, A = some ⟨b, o, none⟩ ∧ (∀ j, j < P.cellsOf e → W.cell? ⟨b, o + i * P.cellsOf e + j, none⟩ = cs[j]?) ∧ cs.length = P.cellsOf e ∧ DataW.trod enc P W 0 (fun _ => true) true n e cs = some y := by
  rcases open_slice ht hf with ⟨hcs, hx⟩ | ⟨a, len, cap, m, n, D, Pl, hcs, h1, hl, hm, hmm, hx, hi⟩
  · have e0 : v = .slice none 0 0 := by simpa using hcs
    exact ⟨none, 0, 0, e0, Nat.le_refl _, by omega, fun i h => absurd h (by omega)⟩
  · have e0 : v = .slice (some a) len cap := by simpa using hcs
    simp only [if_true] at hmm
    unfold maxLen at hm
    refine ⟨some a, len, cap, e0, hl, hm, fun i hil => ?_⟩
    obtain ⟨cs, h2, h3⟩ := hi i (by omega)
    obtain ⟨_, hcl, hat⟩ := World.cells?_some h2
    obtain ⟨b, off, spot⟩ := a
    have hspot : spot = none := by
      obtain ⟨cs0, h20, _⟩ := hi 0 (by omega)
      obtain ⟨_, hcl0, hat0⟩ := World.cells?_some h20
      have h := hat0 0 hc
      rw [List.getElem?_eq_getElem (show 0 < cs0.length by omega)] at h
      have e1 : ((⟨b, off, spot⟩ : Addr).add (0 * P.cellsOf e)).add 0 = ⟨b, off, spot⟩ := by simp [Addr.add]
      rw [e1] at h
      exact World.cell?_spot h
    subst hspot
    refine ⟨b, off, n, _, cs, rfl, fun j hj => ?_, hcl, h3⟩
    have h := hat j hj
    rw [add_add, Go.WideShapes.add_plain] at h
    rw [← h, Nat.add_assoc]
theorem open_at' {t e : TypeId} {b0 : Nat} {v : Value} {d : DataW H} {p : List MemPlace} (ht : P.underlying t = some (.slice e)) (hc : 0 < P.cellsOf e)
    (hval : Value.okWide P W .any b0 t v) (hd : DataW.Trod enc P W 0 (fun _ => true) true t v d p) :
    ∃ A len cap, v = .slice A len cap ∧ len ≤ cap ∧ cap ≤ 9223372036854775807 ∧ ∀ i, i < len → ∃ b o n y cs, A = some ⟨b, o, none⟩ ∧ (∀ j, j < P.cellsOf e → W.cell? ⟨b, o + i * P.cellsOf e + j, none⟩ = cs[j]?) ∧ cs.length = P.cellsOf e ∧ DataW.trod enc P W 0 (fun _ => true) true n e cs = some y := by
  obtain ⟨a0, len, cap, rfl⟩ := okWide_slice ht hval
  obtain ⟨fuel, hf⟩ := hd
  exact open_at ht hc (by simpa [Value.cells] using hf)
/-- A field of one cell that is a string. -/
theorem field_str {w : World} {n : Nat} {fs : Array Field} {t : TypeId} {cs : List Value} {y : DataW H × List MemPlace} (ht : P.underlying t = some (.struct fs)) (h : DataW.trod enc P w 0 (fun _ => true) true n t cs = some y) (j : Nat) (f : Field) (hj : fs[j]? = some f)
    (hs : P.underlying f.type = some .string) (hc : P.cellsOf f.type = 1) : ∃ s : ByteArray, cs[f.offset]? = some (.string s) ∧ s.size ≤ 9223372036854775807 := by
  obtain ⟨xs, n', _, _, _, hlen, hg⟩ := DataW.trod_struct ht h
  have h1 := hg j f hj
  have hjl : j < fs.size := (Array.getElem?_eq_some_iff.1 hj).1
  rw [List.getElem?_eq_getElem (by omega), hc] at h1
  obtain ⟨s, h2, _, h4⟩ := DataW.trod_string hs h1
  refine ⟨s, ?_, by unfold maxLen at h4; exact h4⟩
  have : (List.take 1 (List.drop f.offset cs))[0]? = some (.string s) := by rw [h2]; rfl
  simpa [List.getElem?_take, List.getElem?_drop] using this
end
end Go.Proofs.YtkhdhelhkokdcaaDoor
