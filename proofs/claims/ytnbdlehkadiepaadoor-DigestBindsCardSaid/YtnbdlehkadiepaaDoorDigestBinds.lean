/- DigestBinds: for every two lists of strings, every string and every index the law answers true and leaves its arguments alone; no condition. -/
import Derived.Deep.QuietTactic
import Derived.BigQuiet
import Derived.Deep.RegionHeld3
import Derived.Test.YtnbdlehkadiepaaDoorCards
import Derived.Test.YtnbdlehkadiepaaDoorTie
import Derived.Test.YtnbdlehkadiepaaDoorDigLaid
import Derived.Test.YtnbdlehkadiepaaDoorDigAwake
import Derived.Test.YtnbdlehkadiepaaDoorLawStrs
import Derived.Test.YtnbdlehkadiepaaDoorDigLaws
import Derived.Test.YtnbdlehkadiepaaDoorDigRProves
namespace Go.Proofs.YtnbdlehkadiepaaDoor.digestBinds
open Go.ChangeShapes Go.WideShapes Go.ChangeAt Go.RowKit
open Go.ChangeMaps (open_string)

theorem in_of_proves {root s : ByteArray} {i n : Int} {p : List ByteArray} (h : provesS root s i n p = true) : 0 ≤ i ∧ i < n := by
  unfold provesS at h
  rw [Bool.and_eq_true] at h
  simpa [provesIn] using h.1
theorem strsL {s : ByteArray} {i n : Int} {p a : List ByteArray} (h : stringsO s i n p = some (a, [])) : stringsL s i n p = a ∧ stringsB s i n p = true := by
  constructor
  · rw [stringsL, h]
  · rw [stringsB, h]; rfl

/-- Below k no two different strings have one digest. -/
def Missed (a b : List ByteArray) (k : Nat) : Prop := ∀ j, j < k → ∀ x y, a[j]? = some x → b[j]? = some y → x ≠ y → textS x ≠ textS y
theorem Missed.same {a b : List ByteArray} {k : Nat} {x : ByteArray} (h : Missed a b k) (h1 : a[k]? = some x) (h2 : b[k]? = some x) : Missed a b (k + 1) := by
  intro j hj u v hu hv hne
  by_cases e : j = k
  · subst e
    rw [h1] at hu; rw [h2] at hv
    injection hu with hu; injection hv with hv
    exact absurd (hu.symm.trans hv) hne
  · exact h j (by omega) u v hu hv hne
theorem Missed.other {a b : List ByteArray} {k : Nat} {x y : ByteArray} (h : Missed a b k) (h1 : a[k]? = some x) (h2 : b[k]? = some y) (hd : textS x ≠ textS y) : Missed a b (k + 1) := by
  intro j hj u v hu hv hne
  by_cases e : j = k
  · subst e
    rw [h1] at hu; rw [h2] at hv
    injection hu with hu; injection hv with hv
    rw [← hu, ← hv]; exact hd
  · exact h j (by omega) u v hu hv hne
set_option maxHeartbeats 4000000 in
theorem walk (l : List ByteArray) (s : ByteArray) (i : Int) (q : List ByteArray) (A Q : Option Addr) (c d : Nat) (w : World) (hd : DigOk w) (hp : PowOk w) (hS : Strs w A l) (hQ : Strs w Q q) (hqd : q.length ≤ d) (hl : l.length ≤ 9223372036854775807) (hq : q.length ≤ 9223372036854775807) (hs : s.size ≤ 9223372036854775807) :
    Calls Tryd.prog 10 #[.slice A l.length c, .string s, .int .i64 i, .slice Q q.length d] w fun e w' => e = .returned (.bool true) ∧ Below w.heap.size w w' := by
  have HSH := Lib.hid (short_any l A c w hS hl)
  have HSP := Lib.hid (fun (wx : World) (h : Strs wx Q q) => short_any q Q d wx h hq)
  have hcs : shortB l = false ∨ (shortB l = true ∧ shortB q = false) ∨ (shortB l = true ∧ shortB q = true ∧ 300 < s.size) ∨ (shortB l = true ∧ shortB q = true ∧ s.size ≤ 300) := by
    cases shortB l <;> cases shortB q <;> simp <;> omega
  rcases hcs with h | ⟨h, h2⟩ | ⟨h, h2, h3⟩ | ⟨h, h2, h3⟩
  · have HT := Lib.hid h
    clear h
    go_enter Tryd.func10, Tryd.ntmps10
    go_wp2_with fail
    refine HSH.out.mono ?_
    rintro e w1 ⟨rfl, hb1⟩
    rw [HT.out]
    have B1 := Lib.hid hb1
    clear hb1
    go_wp2_with fail
    refine (awake_any _ (hd.below B1.out) (hp.below B1.out)).mono ?_
    rintro e wz ⟨rfl, hbz⟩
    have BZ := Lib.hid (bthen B1.out hbz)
    clear hbz
    go_wp2_with fail
    go_ret
    exact ⟨rfl, BZ.out⟩
  · have HT := Lib.hid h
    have HT2 := Lib.hid h2
    clear h h2
    go_enter Tryd.func10, Tryd.ntmps10
    go_wp2_with fail
    refine HSH.out.mono ?_
    rintro e w1 ⟨rfl, hb1⟩
    rw [HT.out]
    have B1 := Lib.hid hb1
    clear hb1
    go_wp2_with fail
    refine (HSP.out _ (hQ.below B1.out)).mono ?_
    rintro e w2 ⟨rfl, hb2⟩
    rw [HT2.out]
    have B2 := Lib.hid (bthen B1.out hb2)
    clear hb2
    go_wp2_with fail
    refine (awake_any _ (hd.below B2.out) (hp.below B2.out)).mono ?_
    rintro e wz ⟨rfl, hbz⟩
    have BZ := Lib.hid (bthen B2.out hbz)
    clear hbz
    go_wp2_with fail
    go_ret
    exact ⟨rfl, BZ.out⟩
  · have HT := Lib.hid h
    have HT2 := Lib.hid h2
    clear h h2
    go_enter Tryd.func10, Tryd.ntmps10
    go_wp2_with fail
    refine HSH.out.mono ?_
    rintro e w1 ⟨rfl, hb1⟩
    rw [HT.out]
    have B1 := Lib.hid hb1
    clear hb1
    go_wp2_with fail
    refine (HSP.out _ (hQ.below B1.out)).mono ?_
    rintro e w2 ⟨rfl, hb2⟩
    rw [HT2.out]
    have B2 := Lib.hid (bthen B1.out hb2)
    clear hb2
    go_wp2_with fail
    refine (awake_any _ (hd.below B2.out) (hp.below B2.out)).mono ?_
    rintro e wz ⟨rfl, hbz⟩
    have BZ := Lib.hid (bthen B2.out hbz)
    clear hbz
    go_wp2_with fail
    go_ret
    exact ⟨rfl, BZ.out⟩
  · have hll : l.length ≤ 1000000 ∧ ∀ s ∈ l, s.size ≤ 1000000 := by
      rw [shortB, decide_eq_true_iff] at h
      exact ⟨by omega, fun s hs => by have := h.2 s hs; omega⟩
    have hqq : q.length ≤ 1000000 ∧ ∀ s ∈ q, s.size ≤ 1000000 := by
      rw [shortB, decide_eq_true_iff] at h2
      exact ⟨by omega, fun s hs => by have := h2.2 s hs; omega⟩
    have HZ := Lib.hid hll.2
    have HZQ := Lib.hid hqq.2
    have hl6 := hll.1
    have hq6 := hqq.1
    have HT := Lib.hid h
    have HT2 := Lib.hid h2
    clear hll hqq h h2
    go_enter Tryd.func10, Tryd.ntmps10
    go_wp2_with fail
    refine HSH.out.mono ?_
    rintro e w1 ⟨rfl, hb1⟩
    rw [HT.out]
    have B1 := Lib.hid hb1
    clear hb1
    go_wp2_with fail
    refine (HSP.out _ (hQ.below B1.out)).mono ?_
    rintro e w2 ⟨rfl, hb2⟩
    rw [HT2.out]
    have B2 := Lib.hid (bthen B1.out hb2)
    clear hb2
    go_wp2_with fail
    refine (root_any l A c _ (hd.below B2.out) (hS.below B2.out) hl6 HZ.out).mono ?_
    rintro e w3 ⟨rfl, hb3⟩
    have B3 := Lib.hid (bthen B2.out hb3)
    clear hb3
    go_wp2_with fail
    refine (proves_any (rootS l) s i (l.length : Int) q Q d _ (hd.below B3.out) (hQ.below B3.out) hqd hq6 HZQ.out (by omega) (by omega)).mono ?_
    rintro e w4 ⟨rfl, hb4⟩
    have B4 := Lib.hid (bthen B3.out hb4)
    clear hb4
    cases hpv : provesS (rootS l) s i (l.length : Int) q with
    | false =>
      clear hpv
      go_wp2_with fail
      refine (awake_any _ (hd.below B4.out) (hp.below B4.out)).mono ?_
      rintro e wz ⟨rfl, hbz⟩
      have BZ := Lib.hid (bthen B4.out hbz)
      clear hbz
      go_wp2_with fail
      go_ret
      exact ⟨rfl, BZ.out⟩
    | true =>
      obtain ⟨i0, i1⟩ := in_of_proves hpv
      obtain ⟨i, rfl⟩ := Int.eq_ofNat_of_zero_le i0
      have hil : i < l.length := by omega
      obtain ⟨b, o, rfl, hc⟩ := (hS.below B4.out) i hil
      by_cases hsl : s = l[i]
      · have HC := Lib.hid hpv
        clear hpv
        subst hsl
        go_wp2_with fail
        refine (awake_any _ (hd.below B4.out) (hp.below B4.out)).mono ?_
        rintro e wz ⟨rfl, hbz⟩
        have BZ := Lib.hid (bthen B4.out hbz)
        clear hbz
        go_wp2_with fail
        go_ret
        exact ⟨rfl, BZ.out⟩
      · obtain ⟨a, bb, o1, o2, hlen, hcol⟩ := binds l s i hil q hpv hsl
        obtain ⟨g1, g2⟩ := strsL o1
        obtain ⟨g3, g4⟩ := strsL o2
        have hlz : l[i].size ≤ 1000000 := HZ.out _ (List.getElem_mem hil)
        have hz1 := stringsO_sizes hlz (pathS_sizes l (i : Int)) o1
        have hz2 := stringsO_sizes (show s.size ≤ 1000000 by omega) HZQ.out o2
        have ha6 : a.length ≤ 1000001 := by have := pathS_length l (i : Int) hl6; have := hz1.2.1; simp at this; omega
        have HLN := Lib.hid hlen
        have HCO := Lib.hid hcol
        have HG1 := Lib.hid g1
        have HG2 := Lib.hid g2
        have HG3 := Lib.hid g3
        have HG4 := Lib.hid g4
        have HA := Lib.hid hz1.1
        have HB := Lib.hid hz2.1
        have HPL := Lib.hid (pathS_length l (i : Int) hl6)
        have hq := str_ne hsl
        have HS1 := Lib.hid (fun (wx : World) (Ax : Option Addr) (cx : Nat) (h : Strs wx Ax (pathS l (i : Int))) => strings_any l[i] (i : Int) (l.length : Int) (pathS l (i : Int)) Ax cx wx h (pathS_length l (i : Int) hl6) (pathS_sizes l (i : Int)) hlz (by omega))
        clear hlen hcol g1 g2 g3 g4 hz1 hz2 hpv hsl o1 o2
        have hlb := World.block_lt_of_cell? _ _ hc
        generalize l[i] = y at *
        go_wp2_with fail
        refine (rpath_any l _ c (i : Int) _ (hS.below B4.out) hl6 HZ.out).mono ?_
        rintro e w5 ⟨⟨A5, c5, rfl, hS5, _⟩, hb5⟩
        have B5 := Lib.hid (bthen B4.out hb5)
        have hc5 := (hb5.cell hlb).trans hc
        clear hb5 hc hlb
        go_wp2_with fail
        refine (HS1.out _ _ _ hS5).mono ?_
        rintro e w6 ⟨⟨A6, c6, rfl, hS6⟩, hb6⟩
        rw [HG1.out, HG2.out]
        rw [HG1.out] at hS6
        have B6 := Lib.hid (bthen B5.out hb6)
        clear hb6 hc5
        go_wp2_with fail
        refine (strings_any s (i : Int) (l.length : Int) q Q d _ (hQ.below B6.out) hq6 HZQ.out (by omega) (by omega)).mono ?_
        rintro e w7 ⟨⟨A7, c7, rfl, hS7⟩, hb7⟩
        rw [HG3.out, HG4.out, ← HLN.out]
        rw [HG3.out] at hS7
        have B7 := Lib.hid (bthen B6.out hb7)
        have S6 := Lib.hid (hS6.below hb7)
        have S7 := Lib.hid hS7
        clear hb7 hS6 hS7 hS5
        go_wp2_with fail
        go_loopw [15] (fun v wr => ∃ k : Nat, k ≤ a.length ∧ v = .int .i64 k ∧ Strs wr A6 a ∧ Strs wr A7 bb ∧ Below w.heap.size w wr ∧ Missed a bb k) (fun v _ => a.length - (intOf v).toNat)
        case atStart => exact ⟨0, Nat.zero_le _, rfl, S6.out, S7.out, B7.out, fun j hj => absurd hj (by omega)⟩
        case round =>
          obtain ⟨k, hk, rfl, hSa, hSb, hbr, hmis⟩ := hrel
          have BR := Lib.hid hbr
          have SA := Lib.hid hSa
          have SB := Lib.hid hSb
          have HM := Lib.hid hmis
          clear hbr hmis
          by_cases hlt : k < a.length
          · have hlt2 : k < bb.length := by rw [← HLN.out]; exact hlt
            obtain ⟨b1, o1, rfl, h1⟩ := hSa k hlt
            obtain ⟨b2, o2, rfl, h2⟩ := hSb k hlt2
            have i1 : (0 : Int) ≤ (k : Int) := by omega
            have i2 : (k : Int) < (a.length : Int) := by omega
            have HXk : Hid (a[k]? = some a[k]) := List.getElem?_eq_getElem hlt
            have HYk : Hid (bb[k]? = some bb[k]) := List.getElem?_eq_getElem hlt2
            have hxs := HA.out _ (List.getElem_mem hlt)
            have hys := HB.out _ (List.getElem_mem hlt2)
            generalize a[k] = x at *
            generalize bb[k] = z at *
            have l1 := World.block_lt_of_cell? _ _ h1
            have l2 := World.block_lt_of_cell? _ _ h2
            clear hSa hSb
            by_cases hxz : x = z
            · subst hxz
              have HM2 : Hid (Missed a bb (k + 1)) := HM.out.same HXk.out HYk.out
              go_wp2_with fail
              go_quiet (fail)
              go_wp2_with fail
              go_roundw
              case rel => exact ⟨k + 1, by omega, by go_num, SA.out, SB.out, below_drewN BR.out _, HM2.out⟩
              case measure => simp [intOf]; omega
            · have hne := str_ne hxz
              have hdd := (hd.below BR.out).drew
              have h1d : wr.drew.cell? ⟨b1, o1 + k, none⟩ = some (.string x) := h1
              have h2d : wr.drew.cell? ⟨b2, o2 + k, none⟩ = some (.string z) := h2
              have R1 : Hid (x.size ≤ 9223372036854775807) := by show _ ≤ _; omega
              have R2 : Hid (z.size ≤ 9223372036854775807) := by show _ ≤ _; omega
              have tok : Hid True := trivial
              by_cases hte : textS x = textS z
              · have HTE := Lib.hid hte
                have het : ((textS x).toList == (textS z).toList) = true := by rw [hte]; simp
                clear hte
                go_wp2_with fail
                go_region_held3 (fun w' => w'.cell? ⟨b1, o1 + k, none⟩ = some (.string x) ∧ w'.cell? ⟨b2, o2 + k, none⟩ = some (.string z))
                  (first
                    | with_reducible exact ⟨h1d, h2d⟩
                    | with_reducible exact ⟨k3, k4⟩
                    | with_reducible exact ⟨k1, k2⟩)
                  (first
                    | (clear tok; go_at_call 16; refine (text_any _ _ hdd R1.out).mono ?_; rintro e w8 ⟨rfl, hb8⟩; have k1 := (hb8.cell (p := ⟨b1, o1 + k, none⟩) l1).trans h1d; have k2 := (hb8.cell (p := ⟨b2, o2 + k, none⟩) l2).trans h2d)
                    | (go_at_call 16; refine (text_any _ _ (hdd.below hb8) R2.out).mono ?_; rintro e w9 ⟨rfl, hb9⟩; have k3 := (hb9.cell (World.block_lt_of_cell? _ _ k1)).trans k1; have k4 := (hb9.cell (World.block_lt_of_cell? _ _ k2)).trans k2))
                have B9 := Lib.hid (bthen BR.out.drew (bthen hb8 hb9))
                clear hb8 hb9 k1 k2 k3 k4 h1d h2d
                go_wp2_with fail
                refine (awake_any _ (hd.below B9.out) (hp.below B9.out)).mono ?_
                rintro e wz ⟨rfl, hbz⟩
                have BZ := Lib.hid (bthen B9.out hbz)
                clear hbz
                go_wp2_with fail
                go_ret
                exact ⟨rfl, BZ.out⟩
              · have HTE := Lib.hid hte
                have het := str_ne hte
                have HM2 : Hid (Missed a bb (k + 1)) := HM.out.other HXk.out HYk.out hte
                clear hte
                go_wp2_with fail
                go_region_held3 (fun w' => w'.cell? ⟨b1, o1 + k, none⟩ = some (.string x) ∧ w'.cell? ⟨b2, o2 + k, none⟩ = some (.string z))
                  (first
                    | with_reducible exact ⟨h1d, h2d⟩
                    | with_reducible exact ⟨k3, k4⟩
                    | with_reducible exact ⟨k1, k2⟩)
                  (first
                    | (clear tok; go_at_call 16; refine (text_any _ _ hdd R1.out).mono ?_; rintro e w8 ⟨rfl, hb8⟩; have k1 := (hb8.cell (p := ⟨b1, o1 + k, none⟩) l1).trans h1d; have k2 := (hb8.cell (p := ⟨b2, o2 + k, none⟩) l2).trans h2d)
                    | (go_at_call 16; refine (text_any _ _ (hdd.below hb8) R2.out).mono ?_; rintro e w9 ⟨rfl, hb9⟩; have k3 := (hb9.cell (World.block_lt_of_cell? _ _ k1)).trans k1; have k4 := (hb9.cell (World.block_lt_of_cell? _ _ k2)).trans k2))
                have B9 := Lib.hid (bthen BR.out.drew (bthen hb8 hb9))
                have SA9 := Lib.hid (SA.out.drew.below (bthen hb8 hb9))
                have SB9 := Lib.hid (SB.out.drew.below (bthen hb8 hb9))
                clear hb8 hb9 k1 k2 k3 k4 h1d h2d
                go_wp2_with fail
                go_roundw
                case rel => exact ⟨k + 1, by omega, by go_num, SA9.out, SB9.out, B9.out, HM2.out⟩
                case measure => simp [intOf]; omega
          · exfalso
            obtain ⟨k0, x, z, e1, e2, e3, e4⟩ := HCO.out
            have hk0 : k0 < a.length := (List.getElem?_eq_some_iff.1 e1).1
            exact HM.out k0 (by omega) x z e1 e2 e3 e4

/-- What the walk gives, for every argument and every world that holds the listed variables. -/
theorem contract (H : Type) (enc : TypeId × Value → H) (W : World) (base : Nat) (args : Array Value) (ds gs : List (DataW H)) (before : List MemPlace)
    (hval : ∀ (j : Nat) t v, Tryd.f10.params[j]? = some t → args[j]? = some v → Value.okWide Tryd.prog W .any base t v)
    (hW : DataW.Whole enc Tryd.prog Tryd.f10.params.toList Rows.digestBindsSpec.vars false W args.toList ds gs before) (hL : laidMetH Tryd.prog Rows.digestBindsRow.laid W) :
    Calls Tryd.prog 10 args W fun e W' => ∃ v, e = .returned v ∧ Rows.digestBindsSpec.post enc Tryd.prog Tryd.f10 false true false false W args v W' := by
  have hW' := hW
  obtain ⟨p, q, hA0, hV, rfl, hfz, hnd⟩ := hW
  obtain ⟨rfl, rfl⟩ := trodVars_none hV
  have hA1 : DataW.TrodAll enc Tryd.prog W 0 (fun _ => true) true Tryd.f10.params.toList args.toList ds (p ++ []) := by rw [List.append_nil]; exact hA0
  have hA : DataW.TrodAll enc Tryd.prog W 0 (fun _ => true) true Tryd.f10.params.toList args.toList ds p := hA0
  rw [Tryd.params10] at hA hval
  obtain ⟨v0, vs0, d0, ds0, p0, q0, hargs, rfl, rfl, h0, r0⟩ := trodAll_cons hA
  obtain ⟨v1, vs1, d1, ds1, p1, q1, rfl, rfl, rfl, h1, r1⟩ := trodAll_cons r0
  obtain ⟨v2, vs2, d2, ds2, p2, q2, rfl, rfl, rfl, h2, r2⟩ := trodAll_cons r1
  obtain ⟨v3, vs3, d3, ds3, p3, q3, rfl, rfl, rfl, h3, r3⟩ := trodAll_cons r2
  obtain ⟨rfl, rfl, rfl⟩ := trodAll_nil r3
  obtain rfl : args = #[v0, v1, v2, v3] := by cases args; simp_all
  obtain ⟨A0, l0, c0, rfl, hS0, hc0, hl0, hz0⟩ := open_strl Tryd.underlying35 Tryd.underlying9 (by kernel_rfl) (hval 0 35 v0 rfl rfl) h0
  obtain ⟨s1, rfl, rfl, rfl, hs1⟩ := open_string Tryd.underlying9 (hval 1 9 v1 rfl rfl) h1
  have hs1 : s1.size ≤ 9223372036854775807 := by unfold maxLen at hs1; exact hs1
  obtain ⟨n2, rfl, rfl, rfl, wn2⟩ := open_int Tryd.underlying3 (hval 2 3 v2 rfl rfl) h2
  obtain ⟨lo2, hi2⟩ := bounds_i64 wn2
  obtain ⟨A3, l3, c3, rfl, hS3, hc3, hl3, hz3⟩ := open_strl Tryd.underlying35 Tryd.underlying9 (by kernel_rfl) (hval 3 35 v3 rfl rfl) h3
  obtain ⟨hd, hp⟩ := laid_tabs hL
  refine (walk l0 s1 n2 l3 A0 A3 c0 c3 W hd hp hS0 hS3 hc3 hl0 hl3 hs1).mono fun e W' ⟨he, hb⟩ => ?_
  subst he
  exact ⟨_, rfl, law_post laidOut (by kernel_rfl) (by kernel_rfl) Tryd.underlying4 hW' rfl rfl hA1 hb⟩

theorem laid_met (os : Os) : laidMet Tryd.prog Rows.digestBindsRow.laid ((World.doorLaid Tryd.prog 29 os).forCall (fun _ _ => 0) ⟨#[], #[.slice none 0 0, .string ByteArray.empty, .int .i64 0, .slice none 0 0], []⟩).memory :=
  laidMet_of_run' 8 (by kernel_rfl) (by kernel_rfl)
theorem reads (os : Os) {H : Type} (enc : TypeId × Value → H) : ∃ places, DataW.whole enc Tryd.prog ((World.doorLaid Tryd.prog 29 os).forCall (fun _ _ => 0) ⟨#[], #[.slice none 0 0, .string ByteArray.empty, .int .i64 0, .slice none 0 0], []⟩).memory Tryd.f10.params.toList Rows.digestBindsSpec.vars false #[Value.slice none 0 0, .string ByteArray.empty, .int .i64 0, .slice none 0 0].toList 8 = some ([.nil, .lit (.string []), .lit (.int .i64 0), .nil], [], places) :=
  ⟨[], by kernel_rfl⟩

set_option maxRecDepth 100000 in
theorem lifted (os : Os) (started : os.Started) (H : Type) (enc : TypeId × Value → H) (F : Stop.Interp) :
    ReturnsInHanded {} Tryd.checked os 10 .any ((OpenSpec.ofChange Rows.digestBindsSpec).preRow enc Tryd.prog Tryd.f10 Rows.digestBindsRow.domain false Rows.digestBindsRow.laid) (((OpenSpec.ofChange Rows.digestBindsSpec).at F).post enc Tryd.prog Tryd.f10 false true false false) := by
  obtain ⟨places, hx⟩ := reads os enc
  refine returnsInHanded_of_row (C := Tryd.checked) (s := OpenSpec.ofChange Rows.digestBindsSpec) own started (by kernel_rfl) Tryd.func10
    (witness_row_at (enc := enc) (C := Tryd.checked) false (World.doorLaid Tryd.prog 29 os) #[.slice none 0 0, .string ByteArray.empty, .int .i64 0, .slice none 0 0] rfl (by kernel_rfl) (by kernel_rfl) (by kernel_rfl)
      (OpenSpec.preRow_of_cond 8 hx (by kernel_rfl) (fun k hk => by cases hk) (by kernel_rfl) (laid_met os))) ?_
  intro W base args ds gs before hval hW _ _ _ hL _ _
  exact contract H enc W base args ds gs before hval hW hL

theorem said : Rows.DigestBindsSaid :=
  OpenClaim.holds_of_cond 10 Tryd.f10 rfl rfl rfl rfl rfl rfl rfl ⟨rfl, rfl, rfl, rfl, rfl⟩ rfl rfl rfl rfl rfl (by kernel_rfl) Tryd.func10 (by kernel_rfl)
    (of_decide_eq_true (by kernel_rfl)) (by unfold Func.isWrapper; first | (rw [if_pos (by decide +kernel)]; kernel_rfl) | (rw [if_neg (by decide +kernel)]; exact ⟨rfl, rfl⟩))
    (fun os started H enc _ F => by rw [OpenClaim.pre_eq_preRow]; exact lifted os started H enc F)

theorem plain (f : FuncId) (fn : Func) (hf : Tryd.pinned.checked.prog.funcNamed Rows.digestBindsRow.func = some f) (hfn : Tryd.pinned.checked.prog.funcs[f]? = some fn) :
    false = Tryd.pinned.checked.prog.looks [] ∧ ∀ (j : Nat) t, fn.params[j]? = some t → Tryd.pinned.checked.prog.wantsStandIn t = false := by
  obtain rfl : f = 10 := Option.some.inj ((show Tryd.prog.funcNamed Rows.digestBindsRow.func = some 10 by kernel_rfl).symm.trans hf) |>.symm
  obtain rfl : fn = Tryd.f10 := (Option.some.inj (Tryd.func10.symm.trans hfn)).symm
  refine ⟨by kernel_rfl, fun j t ht => ?_⟩
  rw [Tryd.params10] at ht
  have hm : t ∈ [35, 9, 3, 35] := by simpa using Array.mem_of_getElem? ht
  have hall : ([35, 9, 3, 35].all fun u => !Tryd.prog.wantsStandIn u) = true := by kernel_rfl
  exact (show Tryd.prog.wantsStandIn t = false by simpa using List.all_eq_true.1 hall t hm)

theorem card : Rows.DigestBindsCardSaid :=
  Claim7.holds_tied_plain_at .later [] _ _ _ _ said (fun _ h => by cases h) (by kernel_rfl) (fun _ h => by cases h) digestBinds_row_tie rfl ⟨rfl, rfl⟩ (by kernel_rfl) rfl plain (by kernel_rfl)
end Go.Proofs.YtnbdlehkadiepaaDoor.digestBinds
