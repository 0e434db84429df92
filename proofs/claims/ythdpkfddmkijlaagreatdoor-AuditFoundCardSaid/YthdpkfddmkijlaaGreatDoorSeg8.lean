/- Joined: AudParse, AudAdd2, AudAll. -/
import Derived.Test.YthdpkfddmkijlaaGreatDoorSeg5
import Derived.Test.YthdpkfddmkijlaaGreatDoorSeg7
/- audit.Parse and its reference. -/
namespace Go.Proofs.YthdpkfddmkijlaaGreatDoor
open Go.RowKit

theorem readIntP_in (s : ByteArray) : -9223372036854775808 ≤ (readIntP s).1 ∧ (readIntP s).1 ≤ 9223372036854775807 := by
  unfold readIntP
  split
  · split
    · rename_i h; exact h
    · exact ⟨by decide, by decide⟩
  · exact ⟨by decide, by decide⟩
theorem six_of {l : List ByteArray} (h : l.length = 6) : ∃ a b c d e f, l = [a, b, c, d, e, f] := by
  match l, h with
  | [a, b, c, d, e, f], _ => exact ⟨a, b, c, d, e, f, rfl⟩
theorem split_size {s : ByteArray} (h : splitErr s = 0) : ∀ t ∈ splitS s, t.size ≤ s.size + 1 := by
  unfold splitErr at h
  cases hs : splitO s with
  | none => rw [hs] at h; simp at h
  | some l =>
    have := (split_len hs).2
    rw [splitS, hs]
    exact this
theorem parse_no {s : ByteArray} (h : splitErr s ≠ 0 ∨ (splitS s).length ≠ 6 ∨ (readIntP ((splitS s).getD 0 ⟨#[]⟩)).2 ≠ 0 ∨ (readIntP ((splitS s).getD 5 ⟨#[]⟩)).2 ≠ 0 ∨ lineE (evOf (splitS s)) ≠ 0 ∨ lineS (evOf (splitS s)) ≠ s) : parseS s = zeroEv ∧ parseE s = 4 := by
  refine parse_bad (fun hp => ?_)
  obtain ⟨h1, h2, h3, h4⟩ := parseOk_parts hp
  obtain ⟨h5, h6⟩ := parse_reads hp
  rcases h with h | h | h | h | h | h
  · exact h h1
  · exact h h2
  · exact h h5
  · exact h h6
  · exact h h3
  · exact h h4
theorem evOf_six (a b c d e f : ByteArray) : evOf [a, b, c, d, e, f] = ⟨(readIntP a).1, b, c, d, e, (readIntP f).1⟩ := rfl
theorem row_frozen {w : World} {g : Nat} {t : TypeId} {cs : Array Value} (h : w.heap[g]? = some (.cells cs t (0, 0))) (i : Nat) : w.frozen? ⟨g, i, none⟩ = false := by simp [World.frozen?, h]
/-- A block of an event that may be written. -/
def EvBox (w : World) (b : Nat) (x : Ev) : Prop := w.heap[b]? = some (.cells #[.int .i64 x.time, .string x.tenant, .string x.actor, .string x.action, .string x.object, .int .i64 x.result] 24 (0, 0))
theorem EvBox.new (w : World) (x : Ev) : EvBox (w.alloc (.cells #[.int .i64 x.time, .string x.tenant, .string x.actor, .string x.action, .string x.object, .int .i64 x.result] 24)) w.heap.size x := heap_alloc_new w _
theorem EvBox.below {w w' : World} {b : Nat} {x : Ev} (h : EvBox w b x) (hb : Below w.heap.size w w') : EvBox w' b x := (hb.block b (Array.getElem?_eq_some_iff.1 h).1).trans h
theorem EvBox.cells {w : World} {b : Nat} {x : Ev} (h : EvBox w b x) : w.cell? ⟨b, 0, none⟩ = some (.int .i64 x.time) ∧ w.cell? ⟨b, 1, none⟩ = some (.string x.tenant) ∧ w.cell? ⟨b, 2, none⟩ = some (.string x.actor) ∧ w.cell? ⟨b, 3, none⟩ = some (.string x.action) ∧ w.cell? ⟨b, 4, none⟩ = some (.string x.object) ∧ w.cell? ⟨b, 5, none⟩ = some (.int .i64 x.result) :=
  ⟨cell_of_row w b 0 _ _ (0, 0) h, cell_of_row w b 1 _ _ (0, 0) h, cell_of_row w b 2 _ _ (0, 0) h, cell_of_row w b 3 _ _ (0, 0) h, cell_of_row w b 4 _ _ (0, 0) h, cell_of_row w b 5 _ _ (0, 0) h⟩
theorem EvBox.open {w : World} {b : Nat} {x : Ev} (h : EvBox w b x) : w.frozen? ⟨b, 0, none⟩ = false ∧ w.frozen? ⟨b, 1, none⟩ = false ∧ w.frozen? ⟨b, 2, none⟩ = false ∧ w.frozen? ⟨b, 3, none⟩ = false ∧ w.frozen? ⟨b, 4, none⟩ = false ∧ w.frozen? ⟨b, 5, none⟩ = false :=
  ⟨row_frozen h 0, row_frozen h 1, row_frozen h 2, row_frozen h 3, row_frozen h 4, row_frozen h 5⟩
/-- Six strings of a list. -/
theorem strs_six {w : World} {A : Option Addr} {a b c d e f : ByteArray} (h : Strs w A [a, b, c, d, e, f]) : ∃ q o, A = some ⟨q, o, none⟩ ∧ w.cell? ⟨q, o, none⟩ = some (.string a) ∧ w.cell? ⟨q, o + 1, none⟩ = some (.string b) ∧ w.cell? ⟨q, o + 2, none⟩ = some (.string c) ∧ w.cell? ⟨q, o + 3, none⟩ = some (.string d) ∧ w.cell? ⟨q, o + 4, none⟩ = some (.string e) ∧ w.cell? ⟨q, o + 5, none⟩ = some (.string f) := by
  obtain ⟨q, o, hA, h0⟩ := h 0 (by simp)
  subst hA
  have at' : ∀ i (hi : i < [a, b, c, d, e, f].length), w.cell? ⟨q, o + i, none⟩ = some (.string [a, b, c, d, e, f][i]) := by
    intro i hi
    obtain ⟨q', o', he, hc⟩ := h i hi
    injection he with he
    injection he with h1 h2
    subst h1
    subst h2
    exact hc
  exact ⟨q, o, rfl, h0, at' 1 (by simp), at' 2 (by simp), at' 3 (by simp), at' 4 (by simp), at' 5 (by simp)⟩
theorem below_six {B : Nat} {w w' : World} {b : Nat} (h : Below B w w') (hB : B ≤ b) (u0 u1 u2 u3 u4 u5 : Value) : Below B w ((((((w'.setCell ⟨b, 0, none⟩ u0).setCell ⟨b, 1, none⟩ u1).setCell ⟨b, 2, none⟩ u2).setCell ⟨b, 3, none⟩ u3).setCell ⟨b, 4, none⟩ u4).setCell ⟨b, 5, none⟩ u5) :=
  (((((h.setCell (p := ⟨b, 0, none⟩) hB u0).setCell (p := ⟨b, 1, none⟩) hB u1).setCell (p := ⟨b, 2, none⟩) hB u2).setCell (p := ⟨b, 3, none⟩) hB u3).setCell (p := ⟨b, 4, none⟩) hB u4).setCell (p := ⟨b, 5, none⟩) hB u5
set_option maxHeartbeats 8000000 in
set_option maxRecDepth 100000 in
theorem parse_any (s : ByteArray) (w : World) (hs : s.size ≤ 900000) (hp : PowOk w) (hE : ErrsOk w) :
    Calls Tryz.prog 14 #[.string s] w fun e w' => e = .returned (.tuple #[evV (parseS s), .int .i64 (parseE s)]) ∧ Below w.heap.size w w' := by
  have HB : Hid (Below w.heap.size w (w.alloc (.cells #[.int .i64 0, .string ⟨#[]⟩, .string ⟨#[]⟩, .string ⟨#[]⟩, .string ⟨#[]⟩, .int .i64 0] 24))) := Lib.hid ((Below.refl _ _).alloc (Nat.le_refl _) _)
  go_enter Tryz.func14, Tryz.ntmps14
  go_wp2_with fail
  refine (csplit_any s _ (by omega)).mono ?_
  rintro e w1 ⟨⟨A1, c1, rfl, hs1, _, hc1⟩, hb1⟩
  have B1 := Lib.hid (bthen HB.out hb1)
  have X1 : Hid (EvBox w1 w.heap.size zeroEv) := Lib.hid ((EvBox.new w zeroEv).below hb1)
  by_cases he : splitErr s = 0
  · rw [he]
    by_cases hl : (splitS s).length = 6
    · have HSZ := Lib.hid (split_size he)
      have HNO := Lib.hid (@parse_no s)
      have HMK := Lib.hid (fun h3 h4 => parse_ok (parseOk_mk he hl h3 h4))
      obtain ⟨s0, s1, s2, s3, s4, s5, hL⟩ := six_of hl
      rw [hL] at hs1 hc1 HSZ HNO HMK
      rw [hL]
      rw [evOf_six] at HNO HMK
      have z0 := HSZ.out s0 (by simp)
      have z1 := HSZ.out s1 (by simp)
      have z2 := HSZ.out s2 (by simp)
      have z3 := HSZ.out s3 (by simp)
      have z4 := HSZ.out s4 (by simp)
      have z5 := HSZ.out s5 (by simp)
      have HS1 := Lib.hid hs1
      obtain ⟨q, o, rfl, g0, g1, g2, g3, g4, g5⟩ := strs_six HS1.out
      clear hs1 hb1 he hl hL HSZ
      go_wp2_with fail
      refine (readint_any s0 _ (by omega) (hE.below B1.out)).mono ?_
      rintro e w2 ⟨rfl, hb2⟩
      have B2 := Lib.hid (bthen B1.out hb2)
      have X2 : Hid (EvBox w2 w.heap.size zeroEv) := Lib.hid (X1.out.below hb2)
      have HS2 := Lib.hid (HS1.out.below hb2)
      clear hb2 g0 g1 g2 g3 g4 g5
      obtain ⟨q', o', hq, g0, g1, g2, g3, g4, g5⟩ := strs_six HS2.out
      injection hq with hq
      injection hq with hq1 hq2
      subst hq1
      subst hq2
      go_wp2_with fail
      refine (readint_any s5 _ (by omega) (hE.below B2.out)).mono ?_
      rintro e w3 ⟨rfl, hb3⟩
      have B3 := Lib.hid (bthen B2.out hb3)
      have X3 : Hid (EvBox w3 w.heap.size zeroEv) := Lib.hid (X2.out.below hb3)
      have HS3 := Lib.hid (HS2.out.below hb3)
      clear hb3 g0 g1 g2 g3 g4 g5
      obtain ⟨q', o', hq, g0, g1, g2, g3, g4, g5⟩ := strs_six HS3.out
      injection hq with hq
      injection hq with hq1 hq2
      subst hq1
      subst hq2
      have hr0 := readIntP_in s0
      have hr5 := readIntP_in s5
      obtain ⟨r0, HR0⟩ : ∃ r, Hid (readIntP s0 = r) := ⟨_, Lib.hid rfl⟩
      obtain ⟨r5, HR5⟩ : ∃ r, Hid (readIntP s5 = r) := ⟨_, Lib.hid rfl⟩
      rw [show ([s0, s1, s2, s3, s4, s5] : List ByteArray).getD 0 ⟨#[]⟩ = s0 from rfl, show ([s0, s1, s2, s3, s4, s5] : List ByteArray).getD 5 ⟨#[]⟩ = s5 from rfl] at HNO
      rw [HR0.out] at HNO HMK hr0
      rw [HR5.out] at HNO HMK hr5
      rw [HR0.out, HR5.out]
      obtain ⟨t, et⟩ := r0
      obtain ⟨r, er⟩ := r5
      have hr0' : -9223372036854775808 ≤ t ∧ t ≤ 9223372036854775807 := hr0
      have hr5' : -9223372036854775808 ≤ r ∧ r ≤ 9223372036854775807 := hr5
      have HIN : Hid (EvIn ⟨t, s1, s2, s3, s4, r⟩) := Lib.hid ⟨hr0'.1, hr0'.2, hr5'.1, hr5'.2, by show s1.size ≤ _; omega, by show s2.size ≤ _; omega, by show s3.size ≤ _; omega, by show s4.size ≤ _; omega⟩
      have HNO' : Hid (et ≠ 0 ∨ er ≠ 0 ∨ lineE ⟨t, s1, s2, s3, s4, r⟩ ≠ 0 ∨ lineS ⟨t, s1, s2, s3, s4, r⟩ ≠ s → parseS s = zeroEv ∧ parseE s = 4) := Lib.hid (fun h => HNO.out (.inr (.inr h)))
      have HMK' : Hid (lineE ⟨t, s1, s2, s3, s4, r⟩ = 0 → lineS ⟨t, s1, s2, s3, s4, r⟩ = s → parseS s = ⟨t, s1, s2, s3, s4, r⟩ ∧ parseE s = 0) := Lib.hid HMK.out
      have HRD := Lib.hid (@parse_reads s)
      clear hr0 hr5 HNO HMK z0 z1 z2 z3 z4 z5 hr0' hr5'
      have j0 : (0 : Int) ≤ ((([s0, s1, s2, s3, s4, s5] : List ByteArray).length : Nat) : Int) := by omega
      go_wp2_with fail
      go_region_held3 (fun w' => w'.cell? ⟨q, o + 1, none⟩ = some (.string s1) ∧ w'.cell? ⟨q, o + 2, none⟩ = some (.string s2) ∧ w'.cell? ⟨q, o + 3, none⟩ = some (.string s3) ∧ w'.cell? ⟨q, o + 4, none⟩ = some (.string s4))
        (first | go_keep | (exact ⟨g1, g2, g3, g4⟩)) (fail)
      have B4 := Lib.hid ((B3.out.alloc B3.out.size (.cells #[.int .i64 t, .string s1, .string s2, .string s3, .string s4, .int .i64 r] 24)).drew)
      have hb4 : Below w3.heap.size w3 (w3.alloc (.cells #[.int .i64 t, .string s1, .string s2, .string s3, .string s4, .int .i64 r] 24)).drew := ((Below.refl _ _).alloc (Nat.le_refl _) _).drew
      have X4 := Lib.hid (X3.out.below hb4)
      have Y4 : Hid (EvBox (w3.alloc (.cells #[.int .i64 t, .string s1, .string s2, .string s3, .string s4, .int .i64 r] 24)).drew w3.heap.size ⟨t, s1, s2, s3, s4, r⟩) := Lib.hid (EvBox.new w3 ⟨t, s1, s2, s3, s4, r⟩)
      clear hb4 g0 g1 g2 g3 g4 g5
      go_wp2_with fail
      refine (line_any ⟨t, s1, s2, s3, s4, r⟩ _ HIN.out (hp.below B4.out)).mono ?_
      rintro e w5 ⟨rfl, hb5⟩
      have B5 := Lib.hid (bthen B4.out hb5)
      have X5 : Hid (EvBox w5 w.heap.size zeroEv) := Lib.hid (X4.out.below hb5)
      have Y5 : Hid (EvBox w5 w3.heap.size ⟨t, s1, s2, s3, s4, r⟩) := Lib.hid (Y4.out.below hb5)
      clear hb5
      obtain ⟨S, HSS⟩ : ∃ S, Hid (lineS ⟨t, s1, s2, s3, s4, r⟩ = S) := ⟨_, Lib.hid rfl⟩
      obtain ⟨E, HEE⟩ : ∃ E, Hid (lineE ⟨t, s1, s2, s3, s4, r⟩ = E) := ⟨_, Lib.hid rfl⟩
      rw [HSS.out, HEE.out] at HNO' HMK'
      rw [HSS.out, HEE.out]
      have cs : (et ≠ 0) ∨ (et = 0 ∧ er ≠ 0) ∨ (et = 0 ∧ er = 0 ∧ E ≠ 0) ∨ (et = 0 ∧ er = 0 ∧ E = 0 ∧ S ≠ s) ∨ (et = 0 ∧ er = 0 ∧ E = 0 ∧ S = s) := by
        by_cases h3 : S = s
        · by_cases h2 : E = 0
          · by_cases h0 : et = 0 <;> by_cases h1 : er = 0 <;> simp [*]
          · by_cases h0 : et = 0 <;> by_cases h1 : er = 0 <;> simp [*]
        · by_cases h2 : E = 0
          · by_cases h0 : et = 0 <;> by_cases h1 : er = 0 <;> simp [*]
          · by_cases h0 : et = 0 <;> by_cases h1 : er = 0 <;> simp [*]
      rcases cs with h0 | ⟨h0, h1⟩ | ⟨h0, h1, h2⟩ | ⟨h0, h1, h2, h3⟩ | ⟨rfl, rfl, rfl, rfl⟩
      ·
        have HF := Lib.hid (HNO'.out (.inl h0))
        have b0 : (et != 0) = true := by rw [bne_iff_ne]; exact h0
        clear h0
        obtain ⟨k0, k1, k2, k3, k4, k5⟩ := X5.out.cells
        obtain ⟨f0, f1, f2, f3, f4, f5⟩ := X5.out.open
        simp only [zeroEv] at k0 k1 k2 k3 k4 k5
        go_wp2_with fail
        refine bodyPost_ret (v := .tuple #[evV zeroEv, .int .i64 4]) (by simp [results, Tryz.results14, go_sem, evV, zeroEv, k0, k1, k2, k3, k4, k5]) rfl ⟨by rw [HF.out.1, HF.out.2], ?_⟩
        exact below_six B5.out (Nat.le_refl _) _ _ _ _ _ _
      ·
        have HF := Lib.hid (HNO'.out (.inr (.inl h1)))
        have b0 : (et != 0) = false := by rw [h0]; rfl
        have b1 : (er != 0) = true := by rw [bne_iff_ne]; exact h1
        clear h0 h1
        obtain ⟨k0, k1, k2, k3, k4, k5⟩ := X5.out.cells
        obtain ⟨f0, f1, f2, f3, f4, f5⟩ := X5.out.open
        simp only [zeroEv] at k0 k1 k2 k3 k4 k5
        go_wp2_with fail
        refine bodyPost_ret (v := .tuple #[evV zeroEv, .int .i64 4]) (by simp [results, Tryz.results14, go_sem, evV, zeroEv, k0, k1, k2, k3, k4, k5]) rfl ⟨by rw [HF.out.1, HF.out.2], ?_⟩
        exact below_six B5.out (Nat.le_refl _) _ _ _ _ _ _
      ·
        have HF := Lib.hid (HNO'.out (.inr (.inr (.inl h2))))
        have b0 : (et != 0) = false := by rw [h0]; rfl
        have b1 : (er != 0) = false := by rw [h1]; rfl
        have b2 : (E != 0) = true := by rw [bne_iff_ne]; exact h2
        clear h0 h1 h2
        obtain ⟨k0, k1, k2, k3, k4, k5⟩ := X5.out.cells
        obtain ⟨f0, f1, f2, f3, f4, f5⟩ := X5.out.open
        simp only [zeroEv] at k0 k1 k2 k3 k4 k5
        go_wp2_with fail
        refine bodyPost_ret (v := .tuple #[evV zeroEv, .int .i64 4]) (by simp [results, Tryz.results14, go_sem, evV, zeroEv, k0, k1, k2, k3, k4, k5]) rfl ⟨by rw [HF.out.1, HF.out.2], ?_⟩
        exact below_six B5.out (Nat.le_refl _) _ _ _ _ _ _
      ·
        have HF := Lib.hid (HNO'.out (.inr (.inr (.inr h3))))
        have b0 : (et != 0) = false := by rw [h0]; rfl
        have b1 : (er != 0) = false := by rw [h1]; rfl
        have b2 : (E != 0) = false := by rw [h2]; rfl
        have b3 : (S.toList == s.toList) = false := str_ne h3
        have c3 : (S.toList != s.toList) = true := by rw [bne, b3]; rfl
        clear h0 h1 h2 h3
        obtain ⟨k0, k1, k2, k3, k4, k5⟩ := X5.out.cells
        obtain ⟨f0, f1, f2, f3, f4, f5⟩ := X5.out.open
        simp only [zeroEv] at k0 k1 k2 k3 k4 k5
        go_wp2_with fail
        refine bodyPost_ret (v := .tuple #[evV zeroEv, .int .i64 4]) (by simp [results, Tryz.results14, go_sem, evV, zeroEv, k0, k1, k2, k3, k4, k5]) rfl ⟨by rw [HF.out.1, HF.out.2], ?_⟩
        exact below_six B5.out (Nat.le_refl _) _ _ _ _ _ _
      · have HF := Lib.hid (HMK'.out rfl rfl)
        obtain ⟨k0, k1, k2, k3, k4, k5⟩ := X5.out.cells
        obtain ⟨f0, f1, f2, f3, f4, f5⟩ := X5.out.open
        simp only [zeroEv] at k0 k1 k2 k3 k4 k5
        obtain ⟨l0, l1, l2, l3, l4, l5⟩ := Y5.out.cells
        go_wp2_with fail
        refine bodyPost_ret (v := .tuple #[evV ⟨t, s1, s2, s3, s4, r⟩, .int .i64 0]) (by simp [results, Tryz.results14, go_sem, evV, k0, k1, k2, k3, k4, k5]) rfl ⟨by rw [HF.out.1, HF.out.2], ?_⟩
        exact below_six B5.out (Nat.le_refl _) _ _ _ _ _ _
    ·
      have HF := Lib.hid (parse_no (.inr (.inl hl)))
      have hl2 : (((splitS s).length : Int) != 6) = true := by rw [bne_iff_ne]; omega
      clear hs1 hb1 hc1
      obtain ⟨k0, k1, k2, k3, k4, k5⟩ := X1.out.cells
      obtain ⟨f0, f1, f2, f3, f4, f5⟩ := X1.out.open
      simp only [zeroEv] at k0 k1 k2 k3 k4 k5
      go_wp2_with fail
      refine bodyPost_ret (v := .tuple #[evV zeroEv, .int .i64 4]) (by simp [results, Tryz.results14, go_sem, evV, zeroEv, k0, k1, k2, k3, k4, k5]) rfl ⟨by rw [HF.out.1, HF.out.2], ?_⟩
      exact below_six B1.out (Nat.le_refl _) _ _ _ _ _ _
  · have HF := Lib.hid (parse_no (.inl he))
    have hl2 : (splitErr s != 0) = true := by rw [bne_iff_ne]; exact he
    clear hs1 hb1 hc1 he
    obtain ⟨k0, k1, k2, k3, k4, k5⟩ := X1.out.cells
    obtain ⟨f0, f1, f2, f3, f4, f5⟩ := X1.out.open
    simp only [zeroEv] at k0 k1 k2 k3 k4 k5
    go_wp2_with fail
    refine bodyPost_ret (v := .tuple #[evV zeroEv, .int .i64 4]) (by simp [results, Tryz.results14, go_sem, evV, zeroEv, k0, k1, k2, k3, k4, k5]) rfl ⟨by rw [HF.out.1, HF.out.2], ?_⟩
    exact below_six B1.out (Nat.le_refl _) _ _ _ _ _ _
set_option maxHeartbeats 8000000 in
set_option maxRecDepth 100000 in
theorem rparse_any (s : ByteArray) (w : World) (hs : s.size ≤ 900000) :
    Calls Tryz.prog 15 #[.string s] w fun e w' => e = .returned (.tuple #[evV (parseS s), .int .i64 (parseE s)]) ∧ Below w.heap.size w w' := by
  have HB : Hid (Below w.heap.size w (w.alloc (.cells #[.int .i64 0, .string ⟨#[]⟩, .string ⟨#[]⟩, .string ⟨#[]⟩, .string ⟨#[]⟩, .int .i64 0] 24))) := Lib.hid ((Below.refl _ _).alloc (Nat.le_refl _) _)
  go_enter Tryz.func15, Tryz.ntmps15
  go_wp2_with fail
  refine (rsplit_any s _ (by omega)).mono ?_
  rintro e w1 ⟨⟨A1, c1, rfl, hs1, _, hc1⟩, hb1⟩
  have B1 := Lib.hid (bthen HB.out hb1)
  have X1 : Hid (EvBox w1 w.heap.size zeroEv) := Lib.hid ((EvBox.new w zeroEv).below hb1)
  by_cases he : splitErr s = 0
  · rw [he]
    by_cases hl : (splitS s).length = 6
    · have HSZ := Lib.hid (split_size he)
      have HNO := Lib.hid (@parse_no s)
      have HMK := Lib.hid (fun h3 h4 => parse_ok (parseOk_mk he hl h3 h4))
      obtain ⟨s0, s1, s2, s3, s4, s5, hL⟩ := six_of hl
      rw [hL] at hs1 hc1 HSZ HNO HMK
      rw [hL]
      rw [evOf_six] at HNO HMK
      have z0 := HSZ.out s0 (by simp)
      have z1 := HSZ.out s1 (by simp)
      have z2 := HSZ.out s2 (by simp)
      have z3 := HSZ.out s3 (by simp)
      have z4 := HSZ.out s4 (by simp)
      have z5 := HSZ.out s5 (by simp)
      have HS1 := Lib.hid hs1
      obtain ⟨q, o, rfl, g0, g1, g2, g3, g4, g5⟩ := strs_six HS1.out
      clear hs1 hb1 he hl hL HSZ
      go_wp2_with fail
      refine (rreadint_any s0 _ (by omega)).mono ?_
      rintro e w2 ⟨rfl, hb2⟩
      have B2 := Lib.hid (bthen B1.out hb2)
      have X2 : Hid (EvBox w2 w.heap.size zeroEv) := Lib.hid (X1.out.below hb2)
      have HS2 := Lib.hid (HS1.out.below hb2)
      clear hb2 g0 g1 g2 g3 g4 g5
      obtain ⟨q', o', hq, g0, g1, g2, g3, g4, g5⟩ := strs_six HS2.out
      injection hq with hq
      injection hq with hq1 hq2
      subst hq1
      subst hq2
      go_wp2_with fail
      refine (rreadint_any s5 _ (by omega)).mono ?_
      rintro e w3 ⟨rfl, hb3⟩
      have B3 := Lib.hid (bthen B2.out hb3)
      have X3 : Hid (EvBox w3 w.heap.size zeroEv) := Lib.hid (X2.out.below hb3)
      have HS3 := Lib.hid (HS2.out.below hb3)
      clear hb3 g0 g1 g2 g3 g4 g5
      obtain ⟨q', o', hq, g0, g1, g2, g3, g4, g5⟩ := strs_six HS3.out
      injection hq with hq
      injection hq with hq1 hq2
      subst hq1
      subst hq2
      have hr0 := readIntP_in s0
      have hr5 := readIntP_in s5
      obtain ⟨r0, HR0⟩ : ∃ r, Hid (readIntP s0 = r) := ⟨_, Lib.hid rfl⟩
      obtain ⟨r5, HR5⟩ : ∃ r, Hid (readIntP s5 = r) := ⟨_, Lib.hid rfl⟩
      rw [show ([s0, s1, s2, s3, s4, s5] : List ByteArray).getD 0 ⟨#[]⟩ = s0 from rfl, show ([s0, s1, s2, s3, s4, s5] : List ByteArray).getD 5 ⟨#[]⟩ = s5 from rfl] at HNO
      rw [HR0.out] at HNO HMK hr0
      rw [HR5.out] at HNO HMK hr5
      rw [HR0.out, HR5.out]
      obtain ⟨t, et⟩ := r0
      obtain ⟨r, er⟩ := r5
      have hr0' : -9223372036854775808 ≤ t ∧ t ≤ 9223372036854775807 := hr0
      have hr5' : -9223372036854775808 ≤ r ∧ r ≤ 9223372036854775807 := hr5
      have HIN : Hid (EvIn ⟨t, s1, s2, s3, s4, r⟩) := Lib.hid ⟨hr0'.1, hr0'.2, hr5'.1, hr5'.2, by show s1.size ≤ _; omega, by show s2.size ≤ _; omega, by show s3.size ≤ _; omega, by show s4.size ≤ _; omega⟩
      have HNO' : Hid (et ≠ 0 ∨ er ≠ 0 ∨ lineE ⟨t, s1, s2, s3, s4, r⟩ ≠ 0 ∨ lineS ⟨t, s1, s2, s3, s4, r⟩ ≠ s → parseS s = zeroEv ∧ parseE s = 4) := Lib.hid (fun h => HNO.out (.inr (.inr h)))
      have HMK' : Hid (lineE ⟨t, s1, s2, s3, s4, r⟩ = 0 → lineS ⟨t, s1, s2, s3, s4, r⟩ = s → parseS s = ⟨t, s1, s2, s3, s4, r⟩ ∧ parseE s = 0) := Lib.hid HMK.out
      have HRD := Lib.hid (@parse_reads s)
      clear hr0 hr5 HNO HMK z0 z1 z2 z3 z4 z5 hr0' hr5'
      have j0 : (0 : Int) ≤ ((([s0, s1, s2, s3, s4, s5] : List ByteArray).length : Nat) : Int) := by omega
      go_wp2_with fail
      go_region_held3 (fun w' => w'.cell? ⟨q, o + 1, none⟩ = some (.string s1) ∧ w'.cell? ⟨q, o + 2, none⟩ = some (.string s2) ∧ w'.cell? ⟨q, o + 3, none⟩ = some (.string s3) ∧ w'.cell? ⟨q, o + 4, none⟩ = some (.string s4))
        (first | go_keep | (exact ⟨g1, g2, g3, g4⟩)) (fail)
      have B4 := Lib.hid ((B3.out.alloc B3.out.size (.cells #[.int .i64 t, .string s1, .string s2, .string s3, .string s4, .int .i64 r] 24)).drew)
      have hb4 : Below w3.heap.size w3 (w3.alloc (.cells #[.int .i64 t, .string s1, .string s2, .string s3, .string s4, .int .i64 r] 24)).drew := ((Below.refl _ _).alloc (Nat.le_refl _) _).drew
      have X4 := Lib.hid (X3.out.below hb4)
      have Y4 : Hid (EvBox (w3.alloc (.cells #[.int .i64 t, .string s1, .string s2, .string s3, .string s4, .int .i64 r] 24)).drew w3.heap.size ⟨t, s1, s2, s3, s4, r⟩) := Lib.hid (EvBox.new w3 ⟨t, s1, s2, s3, s4, r⟩)
      clear hb4 g0 g1 g2 g3 g4 g5
      go_wp2_with fail
      refine (rline_any ⟨t, s1, s2, s3, s4, r⟩ _ HIN.out).mono ?_
      rintro e w5 ⟨rfl, hb5⟩
      have B5 := Lib.hid (bthen B4.out hb5)
      have X5 : Hid (EvBox w5 w.heap.size zeroEv) := Lib.hid (X4.out.below hb5)
      have Y5 : Hid (EvBox w5 w3.heap.size ⟨t, s1, s2, s3, s4, r⟩) := Lib.hid (Y4.out.below hb5)
      clear hb5
      obtain ⟨S, HSS⟩ : ∃ S, Hid (lineS ⟨t, s1, s2, s3, s4, r⟩ = S) := ⟨_, Lib.hid rfl⟩
      obtain ⟨E, HEE⟩ : ∃ E, Hid (lineE ⟨t, s1, s2, s3, s4, r⟩ = E) := ⟨_, Lib.hid rfl⟩
      rw [HSS.out, HEE.out] at HNO' HMK'
      rw [HSS.out, HEE.out]
      have cs : (E ≠ 0) ∨ (E = 0 ∧ S ≠ s) ∨ (E = 0 ∧ S = s) := by
        by_cases h3 : S = s
        · by_cases h2 : E = 0
          · exact .inr (.inr ⟨h2, h3⟩)
          · exact .inl h2
        · by_cases h2 : E = 0
          · exact .inr (.inl ⟨h2, h3⟩)
          · exact .inl h2
      rcases cs with h0 | ⟨h0, h1⟩ | ⟨rfl, rfl⟩
      ·
        have HF := Lib.hid (HNO'.out (.inr (.inr (.inl h0))))
        have b0 : (E != 0) = true := by rw [bne_iff_ne]; exact h0
        clear h0
        obtain ⟨k0, k1, k2, k3, k4, k5⟩ := X5.out.cells
        obtain ⟨f0, f1, f2, f3, f4, f5⟩ := X5.out.open
        simp only [zeroEv] at k0 k1 k2 k3 k4 k5
        go_wp2_with fail
        refine bodyPost_ret (v := .tuple #[evV zeroEv, .int .i64 4]) (by simp [results, Tryz.results15, go_sem, evV, zeroEv, k0, k1, k2, k3, k4, k5]) rfl ⟨by rw [HF.out.1, HF.out.2], ?_⟩
        exact below_six B5.out (Nat.le_refl _) _ _ _ _ _ _
      ·
        have HF := Lib.hid (HNO'.out (.inr (.inr (.inr h1))))
        have b0 : (E != 0) = false := by rw [h0]; rfl
        have b1 : (S.toList == s.toList) = false := str_ne h1
        have c1 : (S.toList != s.toList) = true := by rw [bne, b1]; rfl
        clear h0 h1
        obtain ⟨k0, k1, k2, k3, k4, k5⟩ := X5.out.cells
        obtain ⟨f0, f1, f2, f3, f4, f5⟩ := X5.out.open
        simp only [zeroEv] at k0 k1 k2 k3 k4 k5
        go_wp2_with fail
        refine bodyPost_ret (v := .tuple #[evV zeroEv, .int .i64 4]) (by simp [results, Tryz.results15, go_sem, evV, zeroEv, k0, k1, k2, k3, k4, k5]) rfl ⟨by rw [HF.out.1, HF.out.2], ?_⟩
        exact below_six B5.out (Nat.le_refl _) _ _ _ _ _ _
      · have HF := Lib.hid (HMK'.out rfl rfl)
        obtain ⟨k0, k1, k2, k3, k4, k5⟩ := X5.out.cells
        obtain ⟨f0, f1, f2, f3, f4, f5⟩ := X5.out.open
        simp only [zeroEv] at k0 k1 k2 k3 k4 k5
        obtain ⟨l0, l1, l2, l3, l4, l5⟩ := Y5.out.cells
        go_wp2_with fail
        refine bodyPost_ret (v := .tuple #[evV ⟨t, s1, s2, s3, s4, r⟩, .int .i64 0]) (by simp [results, Tryz.results15, go_sem, evV, k0, k1, k2, k3, k4, k5]) rfl ⟨by rw [HF.out.1, HF.out.2], ?_⟩
        exact below_six B5.out (Nat.le_refl _) _ _ _ _ _ _
    ·
      have HF := Lib.hid (parse_no (.inr (.inl hl)))
      have hl2 : (((splitS s).length : Int) != 6) = true := by rw [bne_iff_ne]; omega
      clear hs1 hb1 hc1
      obtain ⟨k0, k1, k2, k3, k4, k5⟩ := X1.out.cells
      obtain ⟨f0, f1, f2, f3, f4, f5⟩ := X1.out.open
      simp only [zeroEv] at k0 k1 k2 k3 k4 k5
      go_wp2_with fail
      refine bodyPost_ret (v := .tuple #[evV zeroEv, .int .i64 4]) (by simp [results, Tryz.results15, go_sem, evV, zeroEv, k0, k1, k2, k3, k4, k5]) rfl ⟨by rw [HF.out.1, HF.out.2], ?_⟩
      exact below_six B1.out (Nat.le_refl _) _ _ _ _ _ _
  · have HF := Lib.hid (parse_no (.inl he))
    have hl2 : (splitErr s != 0) = true := by rw [bne_iff_ne]; exact he
    clear hs1 hb1 hc1 he
    obtain ⟨k0, k1, k2, k3, k4, k5⟩ := X1.out.cells
    obtain ⟨f0, f1, f2, f3, f4, f5⟩ := X1.out.open
    simp only [zeroEv] at k0 k1 k2 k3 k4 k5
    go_wp2_with fail
    refine bodyPost_ret (v := .tuple #[evV zeroEv, .int .i64 4]) (by simp [results, Tryz.results15, go_sem, evV, zeroEv, k0, k1, k2, k3, k4, k5]) rfl ⟨by rw [HF.out.1, HF.out.2], ?_⟩
    exact below_six B1.out (Nat.le_refl _) _ _ _ _ _ _
end Go.Proofs.YthdpkfddmkijlaaGreatDoor

/- (*audit.Log).Add: the whole call. -/
namespace Go.Proofs.YthdpkfddmkijlaaGreatDoor
open Go.RowKit

theorem EvBox.keeps {w w' : World} {b : Nat} {x : Ev} {S : Nat → Prop} (h : EvBox w b x) (hk : Keeps w w' S) (hS : ¬ S b) : EvBox w' b x := (hk.block b (Array.getElem?_eq_some_iff.1 h).1 hS).trans h
/-- The log behind Add. -/
theorem add_of {w w1 w2 w3 : World} {B g : Nat} {vL vS : Value} {l : List Ev} {x : Ev} (hs : LSt w B g vL vS l) (h1 : Below w.heap.size w w1) (hx : lineE x = 0) (hin : EvIn x)
    {vL' vS' : Value} (hr : w2.heap[g]? = some (.cells #[vL', vS', .string (headF startS l)] 69 (0, 0))) (ho : w2.ownsRow B 24 6 vL' (l ++ [x]).length (evCs (l ++ [x]))) (ho2 : w2.ownsRow B 9 1 vS' (l ++ [x]).length (strVs ((l ++ [x]).map lineS))) (n1 : vL'.ownBlock ≠ some g) (n2 : vS'.ownBlock ≠ some g) (n3 : ∀ i, vL'.ownBlock = some i → vS'.ownBlock ≠ some i)
    (hk : Keeps w1 w2 (Blk g vL vS)) (hg : ∀ i, Blk g vL' vS' i → Blk g vL vS i ∨ w1.heap.size ≤ i) (hb : Below w2.heap.size w2 w3) :
    AddL w B g vL vS (addE l x) (w3.setCell ⟨g, 2, none⟩ (.string (chainS (headF startS l) (lineS x)))) := by
  have hr3 := (hb.block g (row_lt hr)).trans hr
  have hr4 := row_set hr3 2 (.string (chainS (headF startS l) (lineS x)))
  have hst : ∀ i, i ≠ g → (w3.setCell ⟨g, 2, none⟩ (.string (chainS (headF startS l) (lineS x)))).heap[i]? = w3.heap[i]? := fun i hi => Below.heap_setCell w3 ⟨g, 2, none⟩ _ i hi
  rw [addE, if_pos hx]
  refine ⟨vL', vS', ⟨hs.base, ?_, own_stays (own_below ho hb) (fun i hi => hst i (fun e => n1 (by rw [hi]; exact congrArg some e))), own_stays (own_below ho2 hb) (fun i hi => hst i (fun e => n2 (by rw [hi]; exact congrArg some e))), n1, n2, n3, ?_, ?_⟩, ?_, ?_⟩
  · rw [headF_snoc]; exact hr4
  · intro e he
    rw [List.mem_append, List.mem_singleton] at he
    rcases he with he | rfl
    · exact hs.valid e he
    · exact hx
  · intro e he
    rw [List.mem_append, List.mem_singleton] at he
    rcases he with he | rfl
    · exact hs.inn e he
    · exact hin
  · exact ((Keeps.after h1 hk).then hb).setCell g 2 _ (.inl (.inl rfl))
  · intro i hi
    rcases hg i hi with h | h
    · exact .inl h
    · exact .inr (Nat.le_trans h1.size h)
set_option maxHeartbeats 8000000 in
set_option maxRecDepth 100000 in
theorem ladd_any (x : Ev) (w0 w : World) (hin : EvIn x) (hd0 : DigOk w0) (hp0 : PowOk w0) (hb0 : Below w0.heap.size w0 w) (g : Nat) (vL vS : Value) (l : List Ev) (h : LSt w w0.heap.size g vL vS l) (hl : l.length ≤ 4000) :
    Calls Tryz.prog 24 #[.pointer (some ⟨g, 0, none⟩), evV x] w fun e w' => e = .returned (.int .i64 (lineE x)) ∧ AddL w w0.heap.size g vL vS (addE l x) w' := by
  have hp := hp0.below hb0
  have BW := Lib.hid hb0
  obtain ⟨B, HBB⟩ : ∃ B, Hid (w0.heap.size = B) := ⟨_, Lib.hid rfl⟩
  have hB := hb0.size
  rw [HBB.out] at h hB
  rw [HBB.out]
  obtain ⟨S, HSS⟩ : ∃ S, Hid (lineS x = S) := ⟨_, Lib.hid rfl⟩
  obtain ⟨E, HEE⟩ : ∃ E, Hid (lineE x = E) := ⟨_, Lib.hid rfl⟩
  have HST := Lib.hid h
  have HW := Lib.hid hB
  have HIN := Lib.hid hin
  have hsz := lineS_size x
  rw [HSS.out] at hsz
  have HSZ := Lib.hid hsz
  rw [HEE.out]
  obtain ⟨x0, x1, x2, x3, x4, x5⟩ := x
  have HB0 : Hid (Below w.heap.size w (w.alloc (.cells #[.int .i64 x0, .string x1, .string x2, .string x3, .string x4, .int .i64 x5] 24))) := Lib.hid ((Below.refl _ _).alloc (Nat.le_refl _) _)
  have HX0 := Lib.hid (EvBox.new w ⟨x0, x1, x2, x3, x4, x5⟩)
  have hgl := row_lt h.row
  obtain ⟨A, c, hvL, hcL, _, _⟩ := ev_len h.list
  subst hvL
  have t1 : decide ((4096 : Int) ≤ (l.length : Int)) = false := decide_eq_false (by omega)
  show Calls Tryz.prog 24 #[.pointer (some ⟨g, 0, none⟩), .agg #[.int .i64 x0, .string x1, .string x2, .string x3, .string x4, .int .i64 x5]] w _
  clear h hB hin hsz
  go_enter Tryz.func24, Tryz.ntmps24
  go_wp2_with fail
  refine (lmade_any _ B g _ vS l (HST.out.below HB0.out)).mono ?_
  rintro e wsame ⟨rfl, rfl⟩
  go_wp2_with fail
  refine (line_any ⟨x0, x1, x2, x3, x4, x5⟩ _ HIN.out (hp.below HB0.out)).mono ?_
  rintro e w1 ⟨rfl, hb1⟩
  rw [HSS.out, HEE.out]
  have B1 := Lib.hid (bthen HB0.out hb1)
  have X1 := Lib.hid (HX0.out.below hb1)
  have L1 := Lib.hid (HST.out.below B1.out)
  clear hb1
  by_cases hE : E = 0
  · have HZE := Lib.hid hE
    have t0 : (E != 0) = false := by rw [hE]; rfl
    clear hE
    have c0 : w1.cell? ⟨g, 0, none⟩ = some (.slice A l.length c) := cell_of_row w1 g 0 _ _ (0, 0) L1.out.row
    have HRW := Lib.hid (fun w' (a : LSt w' B g (.slice A l.length c) vS l) (b : B ≤ w'.heap.size) (d : l.length ≤ 5000) => by
      have h := ladd_rows ⟨x0, x1, x2, x3, x4, x5⟩ w' B g (.slice A l.length c) vS l a b d
      rw [HSS.out] at h
      exact h)
    obtain ⟨k0, k1, k2, k3, k4, k5⟩ := X1.out.cells
    have HXC := Lib.hid X1.out.cells
    go_wp2_with fail
    go_region_held3 (fun w' => w'.cell? ⟨w.heap.size, 0, none⟩ = some (.int .i64 x0) ∧ w'.cell? ⟨w.heap.size, 1, none⟩ = some (.string x1) ∧ w'.cell? ⟨w.heap.size, 2, none⟩ = some (.string x2) ∧ w'.cell? ⟨w.heap.size, 3, none⟩ = some (.string x3) ∧ w'.cell? ⟨w.heap.size, 4, none⟩ = some (.string x4) ∧ w'.cell? ⟨w.heap.size, 5, none⟩ = some (.int .i64 x5))
      (first | go_keep | (exact HXC.out) | (exact (EvBox.keeps (w := w1.drew) (x := ⟨x0, x1, x2, x3, x4, x5⟩) X1.out m7 (fun hb => Nat.lt_irrefl _ (HST.out.blk hb).2)).cells))
      (first | (go_at_call 62; refine (HRW.out _ ?_ ?_ ?_).mono ?_; exact L1.out.below (Below.refl _ _).drew; exact Nat.le_trans HW.out B1.out.size; omega; rintro e w2 ⟨rfl, vL', vS', m1, m2, m3, m4, m5, m6, m7, m8⟩))
    have M1 := Lib.hid m1
    have c2 : w2.cell? ⟨g, 2, none⟩ = some (.string (headF startS l)) := cell_of_row w2 g 2 _ _ (0, 0) m1
    have f2 := row_fr m1 2
    have M2 := Lib.hid m2
    have M3 := Lib.hid m3
    have M4 := Lib.hid (show _ ∧ _ ∧ _ from ⟨m4, m5, m6⟩)
    have M7 := Lib.hid m7
    have M8 := Lib.hid m8
    have hz := headF_size l
    obtain ⟨H, HH⟩ : ∃ H, Hid (headF startS l = H) := ⟨_, Lib.hid rfl⟩
    rw [HH.out] at c2 hz
    have HHZ := Lib.hid hz
    clear m1 m2 m3 m4 m5 m6 m7 m8 hz HRW k0 k1 k2 k3 k4 k5
    have BD2 : Hid (Below w0.heap.size w0 w2) := Lib.hid (BW.out.trans (by
      rw [HBB.out]
      exact (Keeps.after B1.out.drew M7.out).below HW.out (fun i hi => (HST.out.blk hi).1)))
    go_wp2_with fail
    refine (chain_any H S _ (hd0.below BD2.out) (by have := HHZ.out; omega) (by have := HSZ.out; omega)).mono ?_
    rintro e w3 ⟨rfl, hb3⟩
    have HB3 := Lib.hid hb3
    have c3 := (hb3.cell (p := ⟨g, 2, none⟩) (World.block_lt_of_cell? _ _ c2)).trans c2
    have f3 := (hb3.frozen (p := ⟨g, 2, none⟩) (World.block_lt_of_cell? _ _ c2)).trans f2
    clear hb3 c2 f2
    go_wp2_with fail
    go_ret
    refine ⟨ret_int HZE.out.symm, ?_⟩
    have := add_of (x := ⟨x0, x1, x2, x3, x4, x5⟩) HST.out B1.out.drew (HEE.out.trans HZE.out) HIN.out M1.out M2.out M3.out M4.out.1 M4.out.2.1 M4.out.2.2 M7.out M8.out HB3.out
    rw [HH.out, HSS.out] at this
    exact this
  · have HNE := Lib.hid hE
    have t0 : (E != 0) = true := by rw [bne_iff_ne]; exact hE
    clear hE
    go_wp2_with fail
    go_ret
    refine ⟨rfl, ?_⟩
    rw [addE, if_neg (by rw [HEE.out]; exact HNE.out)]
    exact ⟨_, _, L1.out, Keeps.of_below B1.out _, fun i hi => .inl hi⟩
end Go.Proofs.YthdpkfddmkijlaaGreatDoor

/- (*audit.Log).All and Events; the reference's log. -/
namespace Go.Proofs.YthdpkfddmkijlaaGreatDoor
open Go.RowKit

/-- What hands back events. -/
def RetEvs (B : Nat) (w' : World) (e : Ending) (l : List Ev) : Prop := ∃ A cap, e = .returned (.slice A l.length cap) ∧ EvsAt w' A l ∧ (∀ p, A = some p → B ≤ p.block) ∧ l.length ≤ cap
theorem RetEvs.own {w : World} {base n : Nat} {v : Value} {l : List Ev} (h : w.ownsRow base 24 6 v n (evCs l)) (hn : l.length = n) : RetEvs base w (.returned v) l := by
  rcases h.2 with ⟨rfl, rfl⟩ | ⟨g, cap, cur, rfl, hg, _, hnc, _⟩
  · have : l = [] := List.eq_nil_of_length_eq_zero hn
    subst this
    exact ⟨none, 0, rfl, EvsAt.nil _ _, (fun p h => by cases h), Nat.le_refl _⟩
  · subst hn
    exact ⟨_, cap, rfl, EvsAt.own h rfl, (fun p h => by cases h; exact hg), hnc⟩
theorem list_evs {w : World} {B : Nat} {v : Value} {l : List Ev} (h : w.ownsRow B 24 6 v l.length (evCs l)) : (v = .slice none 0 0 ∧ l = []) ∨ ∃ b c, v = .slice (some ⟨b, 0, none⟩) l.length c ∧ EvsAt w (some ⟨b, 0, none⟩) l := by
  rcases h.2 with ⟨rfl, h0⟩ | ⟨g, cap, cur, rfl, _⟩
  · exact .inl ⟨rfl, List.eq_nil_of_length_eq_zero h0⟩
  · exact .inr ⟨g, cap, rfl, EvsAt.own h rfl⟩
set_option maxHeartbeats 4000000 in
set_option maxRecDepth 100000 in
theorem lall_any (w : World) (B g : Nat) (vL vS : Value) (l : List Ev) (h : LSt w B g vL vS l) (hl : l.length ≤ 4100) :
    Calls Tryz.prog 33 #[.pointer (some ⟨g, 0, none⟩)] w fun e w' => RetEvs w.heap.size w' e l ∧ Below w.heap.size w w' := by
  obtain ⟨i0, hi, hz0, hz1, hz2⟩ := info_parts info_ev
  have c0 : w.cell? ⟨g, 0, none⟩ = some vL := cell_of_row w g 0 _ _ (0, 0) h.row
  rcases list_evs h.list with ⟨rfl, rfl⟩ | ⟨b, c, rfl, hs⟩
  · clear h
    go_enter Tryz.func33, Tryz.ntmps33
    go_wp2_with fail
    go_ret
    exact ⟨⟨none, 0, rfl, EvsAt.nil _ _, (fun p hp => by cases hp), Nat.le_refl _⟩, Below.refl _ _⟩
  · have HR := Lib.hid (evs_row hs)
    have HZ := Lib.hid (evCs_len l)
    have HO := Lib.hid (evCs_one l)
    clear h hs
    go_enter Tryz.func33, Tryz.ntmps33
    go_wp2_with (first
      | (at_builtin; refine wpList_append_own_at _ rfl _ _ 26 rfl w.heap.size 24 i0 _ 6 80 Tryz.underlying26 hi hz0 hz1 hz2 rfl (by decide) (.slice none 0 0) 0 [] rfl (World.ownsRow_nil _ _ _ _) ⟨b, 0, none⟩ l.length c (evCs l) rfl HZ.out HR.out HO.out (by unfold maxLen; omega) (by omega) (Nat.le_refl _) ?_; intro v2 w2 ho2 hg2 _ _; have HO2 := Lib.hid ho2; have HG2 := Lib.hid hg2; clear ho2 hg2)
      | fail)
    go_ret
    refine ⟨?_, (Below.refl w.heap.size w).grown HG2.out (Nat.le_refl _) (fun k hk => by simp [Value.ownBlock] at hk)⟩
    have h := HO2.out
    rw [Nat.zero_add, List.nil_append] at h
    exact RetEvs.own h rfl
theorem evc_at' (w : World) (x : Ev) (n : Nat) (h : w.heap.size = n) : ∀ j u, (evC x)[j]? = some u → (w.alloc (.cells #[.int .i64 x.time, .string x.tenant, .string x.actor, .string x.action, .string x.object, .int .i64 x.result] 24)).cell? ((⟨n, 0, none⟩ : Addr).add j) = some u := by
  subst h
  exact evc_new w x
/-- The events of a tenant. -/
def ofT (l : List Ev) (tn : ByteArray) : List Ev := l.filter fun e => decide (e.tenant = tn)
theorem ofT_yes {l : List Ev} {k : Nat} (hk : k < l.length) {tn : ByteArray} (h : l[k].tenant = tn) : ofT (l.take (k + 1)) tn = ofT (l.take k) tn ++ [l[k]] := by
  rw [List.take_succ_eq_append_getElem hk, ofT, ofT, List.filter_append]
  simp [h]
theorem ofT_no {l : List Ev} {k : Nat} (hk : k < l.length) {tn : ByteArray} (h : l[k].tenant ≠ tn) : ofT (l.take (k + 1)) tn = ofT (l.take k) tn := by
  rw [List.take_succ_eq_append_getElem hk, ofT, ofT, List.filter_append]
  simp [h]
theorem ofT_len (l : List Ev) (tn : ByteArray) : (ofT l tn).length ≤ l.length := List.length_filter_le _ _
set_option maxHeartbeats 8000000 in
set_option maxRecDepth 100000 in
theorem levents_any (tn : ByteArray) (w : World) (B g : Nat) (vL vS : Value) (l : List Ev) (h : LSt w B g vL vS l) (hl : l.length ≤ 4100) :
    Calls Tryz.prog 35 #[.pointer (some ⟨g, 0, none⟩), .string tn] w fun e w' => RetEvs w.heap.size w' e (ofT l tn) ∧ Below w.heap.size w w' := by
  obtain ⟨i0, hi, hz0, hz1, hz2⟩ := info_parts info_ev
  have HL := Lib.hid (lall_any w B g vL vS l h hl)
  clear h
  go_enter Tryz.func35, Tryz.ntmps35
  go_wp2_with fail
  refine (Calls.mono HL.out ?_)
  rintro e w1 ⟨⟨A1, c1, rfl, hs1, _, hc1⟩, hb1⟩
  have HS := Lib.hid hs1
  have HB1 := Lib.hid hb1
  clear HL hs1 hb1
  go_wp2_with fail
  go_loopw [5, 11] (fun v i wr => ∃ (k n : Nat), k ≤ l.length ∧ n ≤ k ∧ i = .int .i64 k ∧ Hid ((ofT (l.take k) tn).length = n) ∧ wr.ownsRow w1.heap.size 24 6 v n (evCs (ofT (l.take k) tn)) ∧ Below w1.heap.size w1 wr) (fun _ i _ => l.length - (intOf i).toNat)
  case atStart => exact ⟨0, 0, Nat.zero_le _, Nat.le_refl _, rfl, Lib.hid rfl, World.ownsRow_nil _ _ _ _, Below.refl _ _⟩
  case round =>
    obtain ⟨k, n, hk, hn, rfl, HN, hown, hbr⟩ := hrel
    by_cases hlt : k < l.length
    · obtain ⟨b, o, rfl, d0, d1, d2, d3, d4, d5⟩ := (HS.out.below hbr) k hlt
      have HY := Lib.hid (fun h => ofT_yes (tn := tn) hlt h)
      have HNo := Lib.hid (fun h => ofT_no (tn := tn) hlt h)
      have HBX := Lib.hid (hbr.alloc hbr.size (.cells #[.int .i64 l[k].time, .string l[k].tenant, .string l[k].actor, .string l[k].action, .string l[k].object, .int .i64 l[k].result] 24))
      have HOX := Lib.hid (hown.alloc (.cells #[.int .i64 l[k].time, .string l[k].tenant, .string l[k].actor, .string l[k].action, .string l[k].object, .int .i64 l[k].result] 24))
      have HEN := Lib.hid (fun W n h => evc_at' W l[k] n h)
      have HEO := Lib.hid (evc_one l[k])
      have HES := Lib.hid (evCs_snoc (ofT (l.take k) tn) l[k])
      generalize l[k] = x at *
      obtain ⟨x0, x1, x2, x3, x4, x5⟩ := x
      have e0 : _ = some (Value.int .i64 x0) := d0
      have e1 : _ = some (Value.string x1) := d1
      have e2 : _ = some (Value.string x2) := d2
      have e3 : _ = some (Value.string x3) := d3
      have e4 : _ = some (Value.string x4) := d4
      have e5 : _ = some (Value.int .i64 x5) := d5
      clear d0 d1 d2 d3 d4 d5 hown
      by_cases ht : x1 = tn
      · have HT := Lib.hid (HY.out ht)
        have t0 : (x1.toList == tn.toList) = true := by rw [ht]; simp
        have t1 : (x1.toList != tn.toList) = false := by rw [ht]; simp
        clear ht
        go_wp2_with (first
          | (at_builtin; refine wpList_append_own_at _ rfl _ _ 26 rfl w1.heap.size 24 i0 _ 6 80 Tryz.underlying26 hi hz0 hz1 hz2 rfl (by decide) _ n (evCs (ofT (l.take k) tn)) rfl (HOX.out.alloc _) ⟨wr.heap.size + 1, 0, none⟩ 1 1 (evC ⟨x0, x1, x2, x3, x4, x5⟩) rfl rfl (HEN.out _ (wr.heap.size + 1) (by simp)) HEO.out (by unfold maxLen; omega) (by omega) (by have := HBX.out.size; simp at *; omega) ?_; intro v2 w2 ho2 hg2 _ _; have HO2 := Lib.hid ho2; have HG2 := Lib.hid hg2; clear ho2 hg2)
          | fail)
        have HB2 : Hid (Below w1.heap.size w1 w2) := Lib.hid ((HBX.out.alloc HBX.out.size _).grown HG2.out (by have := HBX.out.size; simp at this ⊢; omega) (fun q hq => (HOX.out.lt q hq).1))
        have HO3 : Hid (w2.ownsRow w1.heap.size 24 6 v2 (n + 1) (evCs (ofT (l.take (k + 1)) tn))) := Lib.hid (by rw [HT.out, ← HES.out]; exact HO2.out)
        have HN2 : Hid ((ofT (l.take (k + 1)) tn).length = n + 1) := Lib.hid (by rw [HT.out, List.length_append, HN.out]; rfl)
        go_wp2_with fail
        go_roundw
        case rel => exact ⟨k + 1, n + 1, hlt, by omega, by go_num, HN2, HO3.out, HB2.out⟩
        case measure => simp [intOf]; omega
      · have HT := Lib.hid (HNo.out ht)
        have t0 : (x1.toList == tn.toList) = false := str_ne ht
        have t1 : (x1.toList != tn.toList) = true := by rw [bne, t0]; rfl
        clear ht
        go_wp2_with fail
        go_roundw
        case rel => exact ⟨k + 1, n, hlt, by omega, by go_num, Lib.hid (by rw [HT.out]; exact HN.out), by rw [HT.out]; exact HOX.out, HBX.out⟩
        case measure => simp [intOf]; omega
    · have e : l.take k = l := List.take_of_length_le (by omega)
      rw [e] at hown HN
      have HO := Lib.hid hown
      have HN2 := Lib.hid HN.out
      have HBR := Lib.hid (bthen HB1.out hbr)
      clear hown e HN
      go_wp2_with fail
      go_ret
      exact ⟨RetEvs.own (HO.out.mono HB1.out.size) HN2.out, HBR.out⟩
end Go.Proofs.YthdpkfddmkijlaaGreatDoor

