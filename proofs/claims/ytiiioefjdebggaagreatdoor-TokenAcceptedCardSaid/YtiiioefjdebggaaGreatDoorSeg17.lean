/- Joined: ClmOpen. -/
import Derived.Test.YtiiioefjdebggaaGreatDoorSeg16
import Derived.Test.YtiiioefjdebggaaGreatDoorSeg10
/- Arguments of type api.Claims and api.Expect, opened. -/
namespace Go.Proofs.YtiiioefjdebggaaGreatDoor
open Go.ChangeShapes Go.WideShapes Go.ChangeAt Go.RowKit Go.Deep

/-- A field of one cell that is a list of strings. -/
theorem field_strs {H : Type} {enc : TypeId × Value → H} {P : Program} {w : World} {n : Nat} {fs : Array Field} {t e : TypeId} {cs : List Value} {y : DataW H × List MemPlace} (ht : P.underlying t = some (.struct fs)) (h : DataW.trod enc P w 0 (fun _ => true) true n t cs = some y) (j : Nat) (f : Field) (hj : fs[j]? = some f)
    (hs : P.underlying f.type = some (.slice e)) (he : P.underlying e = some .string) (hce : P.cellsOf e = 1) (hc : P.cellsOf f.type = 1) :
    ∃ A l c, cs[f.offset]? = some (.slice A (l : List ByteArray).length c) ∧ Strs w A l ∧ l.length ≤ c ∧ l.length ≤ 9223372036854775807 ∧ ∀ s ∈ l, s.size ≤ 9223372036854775807 := by
  obtain ⟨xs, n', _, _, _, hlen, hg⟩ := DataW.trod_struct ht h
  have h1 := hg j f hj
  have hjl : j < fs.size := (Array.getElem?_eq_some_iff.1 hj).1
  rw [List.getElem?_eq_getElem (by omega), hc] at h1
  have key : ∀ v, List.take 1 (List.drop f.offset cs) = [v] → cs[f.offset]? = some v := fun v h2 => by
    have : (List.take 1 (List.drop f.offset cs))[0]? = some v := by rw [h2]; rfl
    simpa [List.getElem?_take, List.getElem?_drop] using this
  rcases open_strings hs he hce h1 with ⟨hcs, hx⟩ | ⟨a, len', cap', ss, hcs, h1, hl, hm, hz, hx, hcell, hws⟩
  · exact ⟨none, [], 0, key _ hcs, Strs.nil_ _ _, Nat.le_refl _, by simp, fun s h => by simp at h⟩
  · simp only [if_true] at hz
    have hlen : (ss.take len').length = len' := by rw [List.length_take]; omega
    unfold maxLen at hm hws
    refine ⟨some a, ss.take len', cap', by rw [hlen]; exact key _ hcs, ?_, by rw [hlen]; exact hl, by rw [hlen]; omega, fun s hs => hws s (List.mem_of_mem_take hs)⟩
    intro i hi
    have hi' : i < ss.length := by rw [List.length_take] at hi; omega
    obtain ⟨b, off, spot⟩ := a
    have hspot : spot = none := by simpa [Addr.add] using World.cell?_spot (hcell 0 (by omega))
    subst hspot
    refine ⟨b, off, rfl, ?_⟩
    have := hcell i hi'
    rw [Go.WideShapes.add_plain] at this
    rw [this, List.getD_eq_getElem?_getD, List.getElem?_eq_getElem hi', Option.getD_some, List.getElem_take]
set_option maxRecDepth 100000 in
set_option maxHeartbeats 4000000 in
theorem open_cl {H : Type} {enc : TypeId × Value → H} {W : World} {b0 : Nat} {v : Value} {d : DataW H} {p : List MemPlace}
    (hval : Value.okWide Tryz.prog W .any b0 25 v) (hd : DataW.Trod enc Tryz.prog W 0 (fun _ => true) true 25 v d p) :
    ∃ (c : Cl) (q : P3), v = clV c q ∧ ClAt W c q ∧ ClIn c q := by
  have he := Tryz.underlying25
  obtain ⟨cs, rfl, hsz⟩ := okWide_struct he hval
  have hsz : cs.size = 16 := hsz.trans (by kernel_rfl)
  obtain ⟨fuel, hf⟩ := hd
  replace hf : DataW.trod enc Tryz.prog W 0 (fun _ => true) true fuel 25 cs.toList = some (d, p) := by simpa [Value.cells] using hf
  obtain ⟨s0, e0, w0⟩ := field_str he hf 0 _ rfl (by kernel_rfl) (by kernel_rfl)
  obtain ⟨s1, e1, w1⟩ := field_str he hf 1 _ rfl (by kernel_rfl) (by kernel_rfl)
  obtain ⟨s2, e2, w2⟩ := field_str he hf 2 _ rfl (by kernel_rfl) (by kernel_rfl)
  obtain ⟨s3, e3, w3⟩ := field_str he hf 3 _ rfl (by kernel_rfl) (by kernel_rfl)
  obtain ⟨s4, e4, w4⟩ := field_str he hf 4 _ rfl (by kernel_rfl) (by kernel_rfl)
  obtain ⟨s5, e5, w5⟩ := field_str he hf 5 _ rfl (by kernel_rfl) (by kernel_rfl)
  obtain ⟨s6, e6, w6⟩ := field_str he hf 6 _ rfl (by kernel_rfl) (by kernel_rfl)
  obtain ⟨s7, e7, w7⟩ := field_str he hf 7 _ rfl (by kernel_rfl) (by kernel_rfl)
  obtain ⟨A8, l8, c8, e8, S8, u8, m8, z8⟩ := field_strs (e := 9) he hf 8 _ rfl (by kernel_rfl) (by kernel_rfl) (by kernel_rfl) (by kernel_rfl)
  obtain ⟨A9, l9, c9, e9, S9, u9, m9, z9⟩ := field_strs (e := 9) he hf 9 _ rfl (by kernel_rfl) (by kernel_rfl) (by kernel_rfl) (by kernel_rfl)
  obtain ⟨A10, l10, c10, e10, S10, u10, m10, z10⟩ := field_strs (e := 9) he hf 10 _ rfl (by kernel_rfl) (by kernel_rfl) (by kernel_rfl) (by kernel_rfl)
  obtain ⟨i11, e11, w11⟩ := field_int (k := .i64) he hf 11 _ rfl (by kernel_rfl) (by kernel_rfl)
  obtain ⟨i12, e12, w12⟩ := field_int (k := .i64) he hf 12 _ rfl (by kernel_rfl) (by kernel_rfl)
  obtain ⟨i13, e13, w13⟩ := field_int (k := .i64) he hf 13 _ rfl (by kernel_rfl) (by kernel_rfl)
  obtain ⟨i14, e14, w14⟩ := field_int (k := .i64) he hf 14 _ rfl (by kernel_rfl) (by kernel_rfl)
  obtain ⟨i15, e15, w15⟩ := field_int (k := .i64) he hf 15 _ rfl (by kernel_rfl) (by kernel_rfl)
  replace e0 : cs.toList[0]? = some (.string s0) := e0
  replace e1 : cs.toList[1]? = some (.string s1) := e1
  replace e2 : cs.toList[2]? = some (.string s2) := e2
  replace e3 : cs.toList[3]? = some (.string s3) := e3
  replace e4 : cs.toList[4]? = some (.string s4) := e4
  replace e5 : cs.toList[5]? = some (.string s5) := e5
  replace e6 : cs.toList[6]? = some (.string s6) := e6
  replace e7 : cs.toList[7]? = some (.string s7) := e7
  replace e8 : cs.toList[8]? = some (.slice A8 l8.length c8) := e8
  replace e9 : cs.toList[9]? = some (.slice A9 l9.length c9) := e9
  replace e10 : cs.toList[10]? = some (.slice A10 l10.length c10) := e10
  replace e11 : cs.toList[11]? = some (.int .i64 i11) := e11
  replace e12 : cs.toList[12]? = some (.int .i64 i12) := e12
  replace e13 : cs.toList[13]? = some (.int .i64 i13) := e13
  replace e14 : cs.toList[14]? = some (.int .i64 i14) := e14
  replace e15 : cs.toList[15]? = some (.int .i64 i15) := e15
  obtain ⟨a11, b11⟩ := bounds_i64 w11
  obtain ⟨a12, b12⟩ := bounds_i64 w12
  obtain ⟨a13, b13⟩ := bounds_i64 w13
  obtain ⟨a14, b14⟩ := bounds_i64 w14
  obtain ⟨a15, b15⟩ := bounds_i64 w15
  clear hf
  refine ⟨⟨s0, s1, s2, s3, s4, s5, s6, s7, l8, l9, l10, i11, i12, i13, i14, i15⟩, ⟨A8, c8, A9, c9, A10, c10⟩, ?_, ⟨S8, S9, S10⟩, ⟨w0, w1, w2, w3, w4, w5, w6, w7, u8, u9, u10, m8, m9, m10, z8, z9, z10, ⟨a11, b11⟩, ⟨a12, b12⟩, ⟨a13, b13⟩, ⟨a14, b14⟩, ⟨a15, b15⟩⟩⟩
  obtain ⟨l, hl⟩ : ∃ l, cs = List.toArray l := ⟨cs.toList, by simp⟩
  subst hl
  have hl : l.length = 16 := by simpa using hsz
  match l, hl with
  | [v0, v1, v2, v3, v4, v5, v6, v7, v8, v9, v10, v11, v12, v13, v14, v15], _ =>
    simp only [List.getElem?_cons_zero, List.getElem?_cons_succ, Option.some.injEq] at e0 e1 e2 e3 e4 e5 e6 e7 e8 e9 e10 e11 e12 e13 e14 e15
    subst e0 e1 e2 e3 e4 e5 e6 e7 e8 e9 e10 e11 e12 e13 e14 e15
    rfl
/-- What the values of an expectation may be. -/
structure ExIn (x : Ex) : Prop where
  s0 : x.kind.size ≤ 9223372036854775807
  s1 : x.issuer.size ≤ 9223372036854775807
  s2 : x.aud.size ≤ 9223372036854775807
  s3 : x.tenant.size ≤ 9223372036854775807
  i0 : -9223372036854775808 ≤ x.now ∧ x.now ≤ 9223372036854775807
  i1 : -9223372036854775808 ≤ x.skew ∧ x.skew ≤ 9223372036854775807
set_option maxRecDepth 100000 in
theorem open_ex {H : Type} {enc : TypeId × Value → H} {W : World} {b0 : Nat} {v : Value} {d : DataW H} {p : List MemPlace}
    (hval : Value.okWide Tryz.prog W .any b0 34 v) (hd : DataW.Trod enc Tryz.prog W 0 (fun _ => true) true 34 v d p) :
    ∃ x : Ex, v = exV x ∧ ExIn x := by
  have he := Tryz.underlying34
  obtain ⟨cs, rfl, hsz⟩ := okWide_struct he hval
  have hsz : cs.size = 6 := hsz.trans (by kernel_rfl)
  obtain ⟨fuel, hf⟩ := hd
  replace hf : DataW.trod enc Tryz.prog W 0 (fun _ => true) true fuel 34 cs.toList = some (d, p) := by simpa [Value.cells] using hf
  obtain ⟨s0, e0, w0⟩ := field_str he hf 0 _ rfl (by kernel_rfl) (by kernel_rfl)
  obtain ⟨s1, e1, w1⟩ := field_str he hf 1 _ rfl (by kernel_rfl) (by kernel_rfl)
  obtain ⟨s2, e2, w2⟩ := field_str he hf 2 _ rfl (by kernel_rfl) (by kernel_rfl)
  obtain ⟨s3, e3, w3⟩ := field_str he hf 3 _ rfl (by kernel_rfl) (by kernel_rfl)
  obtain ⟨i4, e4, w4⟩ := field_int (k := .i64) he hf 4 _ rfl (by kernel_rfl) (by kernel_rfl)
  obtain ⟨i5, e5, w5⟩ := field_int (k := .i64) he hf 5 _ rfl (by kernel_rfl) (by kernel_rfl)
  replace e0 : cs.toList[0]? = some (.string s0) := e0
  replace e1 : cs.toList[1]? = some (.string s1) := e1
  replace e2 : cs.toList[2]? = some (.string s2) := e2
  replace e3 : cs.toList[3]? = some (.string s3) := e3
  replace e4 : cs.toList[4]? = some (.int .i64 i4) := e4
  replace e5 : cs.toList[5]? = some (.int .i64 i5) := e5
  obtain ⟨a4, b4⟩ := bounds_i64 w4
  obtain ⟨a5, b5⟩ := bounds_i64 w5
  clear hf
  refine ⟨⟨s0, s1, s2, s3, i4, i5⟩, ?_, ⟨w0, w1, w2, w3, ⟨a4, b4⟩, ⟨a5, b5⟩⟩⟩
  obtain ⟨l, hl⟩ : ∃ l, cs = List.toArray l := ⟨cs.toList, by simp⟩
  subst hl
  have hl : l.length = 6 := by simpa using hsz
  match l, hl with
  | [v0, v1, v2, v3, v4, v5], _ =>
    simp only [List.getElem?_cons_zero, List.getElem?_cons_succ, Option.some.injEq] at e0 e1 e2 e3 e4 e5
    subst e0 e1 e2 e3 e4 e5
    rfl
end Go.Proofs.YtiiioefjdebggaaGreatDoor

