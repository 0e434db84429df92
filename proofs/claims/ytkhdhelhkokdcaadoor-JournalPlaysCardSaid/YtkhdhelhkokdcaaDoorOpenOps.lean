/- An argument of type []Op, opened. -/
import Derived.Test.YtkhdhelhkokdcaaDoorOpenAt
import Derived.Test.YtkhdhelhkokdcaaDoorJrnLight
namespace Go.Proofs.YtkhdhelhkokdcaaDoor
open Go.ChangeShapes Go.WideShapes Go.ChangeAt Go.RowKit Go.Deep

/-- A field of one cell that is an int. -/
theorem field_int {H : Type} {enc : TypeId × Value → H} {P : Program} {w : World} {n : Nat} {fs : Array Field} {t : TypeId} {k : IntKind} {cs : List Value} {y : DataW H × List MemPlace} (ht : P.underlying t = some (.struct fs)) (h : DataW.trod enc P w 0 (fun _ => true) true n t cs = some y) (j : Nat) (f : Field) (hj : fs[j]? = some f)
    (hs : P.underlying f.type = some (.int k)) (hc : P.cellsOf f.type = 1) : ∃ z : Int, cs[f.offset]? = some (.int k z) ∧ (Lit.int k z).wf = true := by
  obtain ⟨xs, n', _, _, _, hlen, hg⟩ := DataW.trod_struct ht h
  have h1 := hg j f hj
  have hjl : j < fs.size := (Array.getElem?_eq_some_iff.1 hj).1
  rw [List.getElem?_eq_getElem (by omega), hc] at h1
  obtain ⟨z, h2, _, h4⟩ := DataW.trod_int hs h1
  refine ⟨z, ?_, h4⟩
  have : (List.take 1 (List.drop f.offset cs))[0]? = some (.int k z) := by rw [h2]; rfl
  simpa [List.getElem?_take, List.getElem?_drop] using this
theorem open_ops {H : Type} {enc : TypeId × Value → H} {P : Program} {W : World} {b0 : Nat} {t e : TypeId} {f0 f1 f2 : Field} {v : Value} {d : DataW H} {p : List MemPlace}
    (ht : P.underlying t = some (.slice e)) (he : P.underlying e = some (.struct #[f0, f1, f2])) (hce : P.cellsOf e = 3) (ho0 : f0.offset = 0) (ho1 : f1.offset = 1) (ho2 : f2.offset = 2)
    (hs0 : P.underlying f0.type = some (.int .i64)) (hs1 : P.underlying f1.type = some (.int .i64)) (hs2 : P.underlying f2.type = some .string) (hc0 : P.cellsOf f0.type = 1) (hc1 : P.cellsOf f1.type = 1) (hc2 : P.cellsOf f2.type = 1)
    (hval : Value.okWide P W .any b0 t v) (hd : DataW.Trod enc P W 0 (fun _ => true) true t v d p) :
    ∃ A l c, v = .slice A (l : List (Int × Int × ByteArray)).length c ∧ OpsAt W A l ∧ l.length ≤ c ∧ l.length ≤ 9223372036854775807 := by
  obtain ⟨A, len, cap, rfl, hl, hm, hi⟩ := open_at' ht (by omega) hval hd
  have each : ∀ i, i < len → ∃ q : Int × Int × ByteArray, ∃ b o, A = some ⟨b, o, none⟩ ∧ W.cell? ⟨b, o + i * 3, none⟩ = some (.int .i64 q.1) ∧ W.cell? ⟨b, o + i * 3 + 1, none⟩ = some (.int .i64 q.2.1) ∧ W.cell? ⟨b, o + i * 3 + 2, none⟩ = some (.string q.2.2) := by
    intro i hil
    obtain ⟨b, o, n, y, cs, hA, hcell, hcl, hy⟩ := hi i hil
    rw [hce] at hcell hcl
    obtain ⟨z0, e0, _⟩ := field_int he hy 0 f0 rfl hs0 hc0
    obtain ⟨z1, e1, _⟩ := field_int he hy 1 f1 rfl hs1 hc1
    obtain ⟨s2, e2, _⟩ := field_str he hy 2 f2 rfl hs2 hc2
    rw [ho0] at e0
    rw [ho1] at e1
    rw [ho2] at e2
    have h0 := hcell 0 (by omega)
    have h1 := hcell 1 (by omega)
    have h2 := hcell 2 (by omega)
    rw [e0, Nat.add_zero] at h0
    rw [e1] at h1
    rw [e2] at h2
    exact ⟨(z0, z1, s2), b, o, hA, h0, h1, h2⟩
  obtain ⟨f, hf⟩ := choose_lt each
  have hlen : ((List.range len).map f).length = len := by simp
  refine ⟨A, (List.range len).map f, cap, by rw [hlen], ?_, by rw [hlen]; exact hl, by rw [hlen]; omega⟩
  intro i hi'
  have h := hf i (by simpa using hi')
  simpa using h
end Go.Proofs.YtkhdhelhkokdcaaDoor
