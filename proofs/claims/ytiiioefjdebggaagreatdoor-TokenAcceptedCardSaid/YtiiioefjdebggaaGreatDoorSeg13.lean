/- Joined: ClmEq, ClmSample, ClmAwake0, TokBlank, TokVer0, TokVer, TokVer2, TokLeft, TokSign2, TokRSign, Same03. -/
import Derived.Test.YtiiioefjdebggaaGreatDoorSeg4
import Derived.Test.YtiiioefjdebggaaGreatDoorSeg5
import Derived.Test.YtiiioefjdebggaaGreatDoorSeg6
import Derived.Deep.RegionHeld3
import Derived.Test.YtiiioefjdebggaaGreatDoorSeg11
import Derived.Test.YtiiioefjdebggaaGreatDoorSeg12
import Derived.Test.YtiiioefjdebggaaGreatDoorSeg10
import Derived.Test.YtiiioefjdebggaaGreatDoorSeg8
import Derived.Deep.DeepCutAuto
import Derived.Defers
import Derived.Deep.RegionLaw
import Derived.Test.YtiiioefjdebggaaGreatDoorSeg1
import Derived.BigQuiet
import Derived.Deep.QuietTactic
/- claims.Equal. -/
namespace Go.Proofs.YtiiioefjdebggaaGreatDoor
open Go.RowKit

theorem sequal_any (l m : List ByteArray) (A B : Option Addr) (c d : Nat) (w : World) (hA : Strs w A l) (hB : Strs w B m) (hl : l.length ≤ 9223372036854775807) (hm : m.length ≤ 9223372036854775807) :
    Calls Tryz.prog 74 #[.slice A l.length c, .slice B m.length d] w fun e w' => e = .returned (.bool (decide (l = m))) ∧ Below w.heap.size w w' := by
  by_cases hlen : l.length = m.length
  · by_cases h0 : l.length = 0
    · have e1 : l = [] := List.eq_nil_of_length_eq_zero h0
      have e2 : m = [] := List.eq_nil_of_length_eq_zero (hlen ▸ h0)
      subst e1; subst e2
      refine (Tryz.slices_Equal_string_empty A B c 0 d w hm).mono fun e w' ⟨he, hw⟩ => ⟨?_, hw ▸ Below.refl _ _⟩
      rw [he]; rfl
    · obtain ⟨b, o, rfl, _⟩ := hA 0 (by omega)
      obtain ⟨b2, o2, rfl, _⟩ := hB 0 (by omega)
      have f : ∀ (b o : Nat) (l : List ByteArray), Strs w (some ⟨b, o, none⟩) l → ∀ j, j < l.length → w.cell? ⟨b, o + j, none⟩ = some (.string (l.getD j ByteArray.empty)) := fun b o l hS j hj => by
        obtain ⟨b', o', e, hc⟩ := hS j hj
        injection e with e
        injection e with e1 e2
        subst e1; subst e2
        rw [hc, List.getD_eq_getElem?_getD, List.getElem?_eq_getElem hj, Option.getD_some]
      refine (Tryz.slices_Equal_string b o l.length c b2 o2 m.length d l m w (Nat.le_refl _) (Nat.le_refl _) hl hm (f b o l hA) (f b2 o2 m hB)).mono fun e w' ⟨he, q, hw⟩ => ⟨?_, ?_⟩
      · rw [he, List.take_length, List.take_length]
      · rw [hw]; exact below_drewN' (Below.refl _ _) q
  · refine (Tryz.slices_Equal_string_lens A B l.length c m.length d w hlen).mono fun e w' ⟨he, hw⟩ => ⟨?_, hw ▸ Below.refl _ _⟩
    rw [he, decide_eq_false]
    rintro rfl
    exact hlen rfl
/-- Equal so far. -/
def eqS (a b : Cl) (k : Nat) : Prop := ∀ i, i < k → strAt a i = strAt b i
def eqL (a b : Cl) (k : Nat) : Prop := ∀ i, i < k → lstAt a i = lstAt b i
def eqN (a b : Cl) (k : Nat) : Prop := ∀ i, i < k → numAt a i = numAt b i
theorem eqS_next {a b : Cl} {k : Nat} (h : eqS a b k) (e : strAt a k = strAt b k) : eqS a b (k + 1) := fun i hi => by
  rcases Nat.lt_or_ge i k with h1 | h1
  · exact h i h1
  · obtain rfl : i = k := by omega
    exact e
theorem eqL_next {a b : Cl} {k : Nat} (h : eqL a b k) (e : lstAt a k = lstAt b k) : eqL a b (k + 1) := fun i hi => by
  rcases Nat.lt_or_ge i k with h1 | h1
  · exact h i h1
  · obtain rfl : i = k := by omega
    exact e
theorem eqN_next {a b : Cl} {k : Nat} (h : eqN a b k) (e : numAt a k = numAt b k) : eqN a b (k + 1) := fun i hi => by
  rcases Nat.lt_or_ge i k with h1 | h1
  · exact h i h1
  · obtain rfl : i = k := by omega
    exact e
theorem eq_all {a b : Cl} (h1 : eqS a b 8) (h2 : eqL a b 3) (h3 : eqN a b 5) : eqB a b = true := by
  rw [eqB_iff]
  cases a; cases b
  have s0 := h1 0 (by omega)
  have s1 := h1 1 (by omega)
  have s2 := h1 2 (by omega)
  have s3 := h1 3 (by omega)
  have s4 := h1 4 (by omega)
  have s5 := h1 5 (by omega)
  have s6 := h1 6 (by omega)
  have s7 := h1 7 (by omega)
  have l0 := h2 0 (by omega)
  have l1 := h2 1 (by omega)
  have l2 := h2 2 (by omega)
  have n0 := h3 0 (by omega)
  have n1 := h3 1 (by omega)
  have n2 := h3 2 (by omega)
  have n3 := h3 3 (by omega)
  have n4 := h3 4 (by omega)
  simp only [strAt, lstAt, numAt, List.getD_cons_zero, List.getD_cons_succ] at s0 s1 s2 s3 s4 s5 s6 s7 l0 l1 l2 n0 n1 n2 n3 n4
  subst s0; subst s1; subst s2; subst s3; subst s4; subst s5; subst s6; subst s7; subst l0; subst l1; subst l2; subst n0; subst n1; subst n2; subst n3; subst n4
  rfl
theorem ne_str {a b : Cl} {k : Nat} (h : strAt a k ≠ strAt b k) : eqB a b = false := by
  rw [Bool.eq_false_iff]; intro e; rw [eqB_iff] at e; exact h (by rw [e])
theorem ne_lst {a b : Cl} {k : Nat} (h : lstAt a k ≠ lstAt b k) : eqB a b = false := by
  rw [Bool.eq_false_iff]; intro e; rw [eqB_iff] at e; exact h (by rw [e])
theorem ne_num {a b : Cl} {k : Nat} (h : numAt a k ≠ numAt b k) : eqB a b = false := by
  rw [Bool.eq_false_iff]; intro e; rw [eqB_iff] at e; exact h (by rw [e])
set_option maxHeartbeats 16000000 in
set_option maxRecDepth 100000 in
theorem equal_any (a b : Cl) (p q : P3) (w : World) (ha : ClIn a p) (hb : ClIn b q) (hA : ClAt w a p) (hB : ClAt w b q) :
    Calls Tryz.prog 32 #[clV a p, clV b q] w fun e w' => e = .returned (.bool (eqB a b)) ∧ Below w.heap.size w w' := by
  have B1 : Hid (Below w.heap.size w ((w.alloc (clO a p)).alloc (clO b q))) := Lib.hid (((Below.refl _ _).alloc (Nat.le_refl _) _).alloc (by simp) _)
  have X1 : Hid (ClBox ((w.alloc (clO a p)).alloc (clO b q)) w.heap.size a p) := Lib.hid ((ClBox.new w a p).below ((Below.refl _ _).alloc (Nat.le_refl _) _))
  have Y1 : Hid (ClBox ((w.alloc (clO a p)).alloc (clO b q)) (w.heap.size + 1) b q) := Lib.hid (by have h := ClBox.new (w.alloc (clO a p)) b q; simpa using h)
  have HA := Lib.hid hA
  have HB := Lib.hid hB
  have IA := Lib.hid ha
  have IB := Lib.hid hb
  clear hA hB ha hb
  obtain ⟨V, HV⟩ : ∃ V, Hid (eqB a b = V) := ⟨_, Lib.hid rfl⟩
  have HNS : Hid (∀ k, strAt a k ≠ strAt b k → V = false) := Lib.hid (fun k h => by rw [← HV.out]; exact ne_str h)
  have HNL : Hid (∀ k, lstAt a k ≠ lstAt b k → V = false) := Lib.hid (fun k h => by rw [← HV.out]; exact ne_lst h)
  have HNN : Hid (∀ k, numAt a k ≠ numAt b k → V = false) := Lib.hid (fun k h => by rw [← HV.out]; exact ne_num h)
  have HAL : Hid (eqS a b 8 → eqL a b 3 → eqN a b 5 → V = true) := Lib.hid (fun h1 h2 h3 => by rw [← HV.out]; exact eq_all h1 h2 h3)
  rw [HV.out]
  go_enter Tryz.func32, Tryz.ntmps32
  go_wp2_with (first | (refine box_cl rfl _ rfl _ rfl a p rfl ?_) | (refine box_cl rfl _ rfl _ rfl b q rfl ?_) | fail)
  refine (texts_any w.heap.size _).mono ?_
  rintro e w1 ⟨rfl, hb1⟩
  have hz1 : w.heap.size + 2 ≤ w1.heap.size := by have := hb1.size; simp at this; omega
  have B2 := Lib.hid (bthen B1.out hb1)
  have X2 := Lib.hid (X1.out.below hb1)
  have Y2 := Lib.hid (Y1.out.below hb1)
  clear hb1 B1 X1 Y1
  go_wp2_with fail
  go_loopw [12] (fun i wr => ∃ k : Nat, k ≤ 8 ∧ i = .int .i64 k ∧ Hid (eqS a b k) ∧ Hid (Below w.heap.size w wr) ∧ Hid (ClBox wr w.heap.size a p) ∧ Hid (ClBox wr (w.heap.size + 1) b q) ∧ w.heap.size + 2 ≤ wr.heap.size) (fun i _ => 8 - (intOf i).toNat)
  case atStart => exact ⟨0, Nat.zero_le _, rfl, Lib.hid (fun i hi => absurd hi (by omega)), B2, X2, Y2, hz1⟩
  case round =>
    obtain ⟨k, hk, rfl, HEQ, BR, XR, YR, hzr⟩ := hrel
    clear B2 X2 Y2
    by_cases hlt : k < 8
    · have hidx := fun W => idx_texts w.heap.size k hlt W
      have hidx2 := fun W => idx_texts (w.heap.size + 1) k hlt W
      have HKX : Hid (∀ W, Below wr.heap.size wr W → W.cell? ⟨w.heap.size, k, none⟩ = some (.string (strAt a k)) ∧ W.cell? ⟨w.heap.size + 1, k, none⟩ = some (.string (strAt b k))) := Lib.hid (fun W h => ⟨(XR.out.below h).str k hlt, (YR.out.below h).str k hlt⟩)
      have HNX := Lib.hid (HNS.out k)
      have HEN := Lib.hid (fun e => eqS_next (k := k) HEQ.out e)
      obtain ⟨x, HX⟩ : ∃ x, Hid (strAt a k = x) := ⟨_, Lib.hid rfl⟩
      obtain ⟨y, HY⟩ : ∃ x, Hid (strAt b k = x) := ⟨_, Lib.hid rfl⟩
      rw [HX.out, HY.out] at HKX HNX HEN
      obtain ⟨c1, c2⟩ := HKX.out wr (Below.refl _ _)
      have hk0 : (0 : Int) ≤ (k : Int) := by omega
      by_cases hxy : x = y
      · have HE2 := Lib.hid (HEN.out hxy)
        have e1 : (x.toList == y.toList) = true := by rw [hxy]; simp
        have e2 : (x.toList != y.toList) = false := by rw [hxy]; simp
        clear hxy
        go_wp2_with fail
        go_region_held3 (fun w' => w'.cell? ⟨w.heap.size, k, none⟩ = some (.string x) ∧ w'.cell? ⟨w.heap.size + 1, k, none⟩ = some (.string y))
          (first
            | go_keep
            | (exact HKX.out _ HB3.out))
          (first
            | (go_at_call 72; refine (texts_any (w.heap.size + 1) _).mono ?_; rintro e w3 ⟨rfl, hb3⟩; have HB3 : Hid (Below wr.heap.size wr w3) := Lib.hid ((Below.refl wr.heap.size wr).drew.trans hb3); clear hb3))
        have B4 := Lib.hid (bthen BR.out HB3.out)
        have X4 : Hid (ClBox w3 w.heap.size a p) := Lib.hid (XR.out.below HB3.out)
        have Y4 : Hid (ClBox w3 (w.heap.size + 1) b q) := Lib.hid (YR.out.below HB3.out)
        have hz4 : w.heap.size + 2 ≤ w3.heap.size := Nat.le_trans hzr (HB3.out).size
        clear HB3 c1 c2 hidx hidx2
        go_wp2_with fail
        go_roundw
        case rel => exact ⟨k + 1, hlt, by go_num, HE2, B4, X4, Y4, hz4⟩
        case measure => simp [intOf]; omega
      · have hG := Lib.hid (HNX.out hxy)
        have e1 := str_ne hxy
        have e2 : (x.toList != y.toList) = true := by rw [bne, e1]; rfl
        clear hxy
        go_wp2_with fail
        go_region_held3 (fun w' => w'.cell? ⟨w.heap.size, k, none⟩ = some (.string x) ∧ w'.cell? ⟨w.heap.size + 1, k, none⟩ = some (.string y))
          (first
            | go_keep
            | (exact HKX.out _ HB3.out))
          (first
            | (go_at_call 72; refine (texts_any (w.heap.size + 1) _).mono ?_; rintro e w3 ⟨rfl, hb3⟩; have HB3 : Hid (Below wr.heap.size wr w3) := Lib.hid ((Below.refl wr.heap.size wr).drew.trans hb3); clear hb3))
        have B4 := Lib.hid (bthen BR.out HB3.out)
        clear HB3 c1 c2 hidx hidx2
        go_wp2_with fail
        go_ret
        exact ⟨ret_b hG.out.symm, B4.out⟩
    · obtain rfl : k = 8 := by omega
      have HE8 := HEQ
      clear HEQ
      go_wp2_with fail
      refine (lists_any w.heap.size _).mono ?_
      rintro e wa ⟨rfl, hba⟩
      have B2 := Lib.hid (bthen BR.out hba)
      have X2 := Lib.hid (XR.out.below hba)
      have Y2 := Lib.hid (YR.out.below hba)
      have hz1 : w.heap.size + 2 ≤ wa.heap.size := by have := hba.size; omega
      clear hba BR XR YR hzr hlt
      go_wp2_with fail
      go_loopw [27] (fun i wr => ∃ k : Nat, k ≤ 3 ∧ i = .int .i64 k ∧ Hid (eqL a b k) ∧ Hid (Below w.heap.size w wr) ∧ Hid (ClBox wr w.heap.size a p) ∧ Hid (ClBox wr (w.heap.size + 1) b q) ∧ w.heap.size + 2 ≤ wr.heap.size) (fun i _ => 3 - (intOf i).toNat)
      case atStart => exact ⟨0, Nat.zero_le _, rfl, Lib.hid (fun i hi => absurd hi (by omega)), B2, X2, Y2, hz1⟩
      case round =>
        obtain ⟨k, hk, rfl, HEQ, BR, XR, YR, hzr⟩ := hrel
        clear B2 X2 Y2
        by_cases hlt : k < 3
        · have hidx := fun W => idx_lists w.heap.size k hlt W
          have hidx2 := fun W => idx_lists (w.heap.size + 1) k hlt W
          have HKX : Hid (∀ W, Below wr.heap.size wr W → W.cell? ⟨w.heap.size, 8 + k, none⟩ = some (.slice (adrAt p k) (lstAt a k).length (capAt p k)) ∧ W.cell? ⟨w.heap.size + 1, 8 + k, none⟩ = some (.slice (adrAt q k) (lstAt b k).length (capAt q k))) := Lib.hid (fun W h => ⟨(XR.out.below h).lst k hlt, (YR.out.below h).lst k hlt⟩)
          have HSE : Hid (∀ W, Below w.heap.size w W → Calls Tryz.prog 74 #[.slice (adrAt p k) (lstAt a k).length (capAt p k), .slice (adrAt q k) (lstAt b k).length (capAt q k)] W fun e w' => e = .returned (.bool (decide (lstAt a k = lstAt b k))) ∧ Below W.heap.size W w') := Lib.hid (fun W h => sequal_any _ _ _ _ _ _ W ((HA.out.below h).lst k hlt) ((HB.out.below h).lst k hlt) (IA.out.lst k hlt).2.1 (IB.out.lst k hlt).2.1)
          have HNX := Lib.hid (HNL.out k)
          have HEN := Lib.hid (fun e => eqL_next (k := k) HEQ.out e)
          obtain ⟨x, HX⟩ : ∃ x, Hid (lstAt a k = x) := ⟨_, Lib.hid rfl⟩
          obtain ⟨y, HY⟩ : ∃ x, Hid (lstAt b k = x) := ⟨_, Lib.hid rfl⟩
          obtain ⟨pa, HPA⟩ : ∃ x, Hid (adrAt p k = x) := ⟨_, Lib.hid rfl⟩
          obtain ⟨qa, HQA⟩ : ∃ x, Hid (adrAt q k = x) := ⟨_, Lib.hid rfl⟩
          obtain ⟨pc, HPC⟩ : ∃ x, Hid (capAt p k = x) := ⟨_, Lib.hid rfl⟩
          obtain ⟨qc, HQC⟩ : ∃ x, Hid (capAt q k = x) := ⟨_, Lib.hid rfl⟩
          rw [HX.out, HY.out] at HNX HEN
          rw [HX.out, HY.out, HPA.out, HQA.out, HPC.out, HQC.out] at HKX HSE
          obtain ⟨c1, c2⟩ := HKX.out wr (Below.refl _ _)
          have hk0 : (0 : Int) ≤ (k : Int) := by omega
          by_cases hxy : x = y
          · have HE2 := Lib.hid (HEN.out hxy)
            have HSQ : Hid (∀ W, Below w.heap.size w W → Calls Tryz.prog 74 #[.slice pa x.length pc, .slice qa y.length qc] W fun e w' => e = .returned (.bool true) ∧ Below W.heap.size W w') := Lib.hid (fun W h => by have := HSE.out W h; rwa [decide_eq_true hxy] at this)
            clear hxy
            go_wp2_with fail
            go_region_held3 (fun w' => w'.cell? ⟨w.heap.size, 8 + k, none⟩ = some (.slice pa x.length pc) ∧ w'.cell? ⟨w.heap.size + 1, 8 + k, none⟩ = some (.slice qa y.length qc))
              (first
                | go_keep
                | (exact HKX.out _ HW4.out)
                | (exact HKX.out _ HB3.out))
              (first
                | (go_at_call 73; refine (lists_any (w.heap.size + 1) _).mono ?_; rintro e w3 ⟨rfl, hb3⟩; have HB3 : Hid (Below wr.heap.size wr w3) := Lib.hid ((Below.refl wr.heap.size wr).drew.trans hb3); clear hb3)
                | (go_at_call 74; refine (HSQ.out _ (bthen BR.out HB3.out)).mono ?_; rintro e w4 ⟨rfl, hb4⟩; have HW4 : Hid (Below wr.heap.size wr w4) := Lib.hid (bthen HB3.out hb4)))
            have B4 := Lib.hid (bthen BR.out HW4.out)
            have X4 : Hid (ClBox w4 w.heap.size a p) := Lib.hid (XR.out.below HW4.out)
            have Y4 : Hid (ClBox w4 (w.heap.size + 1) b q) := Lib.hid (YR.out.below HW4.out)
            have hz4 : w.heap.size + 2 ≤ w4.heap.size := Nat.le_trans hzr (HW4.out).size
            clear HB3 hb4 c1 c2 hidx hidx2
            go_wp2_with fail
            go_roundw
            case rel => exact ⟨k + 1, hlt, by go_num, HE2, B4, X4, Y4, hz4⟩
            case measure => simp [intOf]; omega
          · have hG := Lib.hid (HNX.out hxy)
            have HSQ : Hid (∀ W, Below w.heap.size w W → Calls Tryz.prog 74 #[.slice pa x.length pc, .slice qa y.length qc] W fun e w' => e = .returned (.bool false) ∧ Below W.heap.size W w') := Lib.hid (fun W h => by have := HSE.out W h; rwa [decide_eq_false hxy] at this)
            clear hxy
            go_wp2_with fail
            go_region_held3 (fun w' => w'.cell? ⟨w.heap.size, 8 + k, none⟩ = some (.slice pa x.length pc) ∧ w'.cell? ⟨w.heap.size + 1, 8 + k, none⟩ = some (.slice qa y.length qc))
              (first
                | go_keep
                | (exact HKX.out _ HW4.out)
                | (exact HKX.out _ HB3.out))
              (first
                | (go_at_call 73; refine (lists_any (w.heap.size + 1) _).mono ?_; rintro e w3 ⟨rfl, hb3⟩; have HB3 : Hid (Below wr.heap.size wr w3) := Lib.hid ((Below.refl wr.heap.size wr).drew.trans hb3); clear hb3)
                | (go_at_call 74; refine (HSQ.out _ (bthen BR.out HB3.out)).mono ?_; rintro e w4 ⟨rfl, hb4⟩; have HW4 : Hid (Below wr.heap.size wr w4) := Lib.hid (bthen HB3.out hb4)))
            have B4 := Lib.hid (bthen BR.out HW4.out)
            clear HB3 hb4 c1 c2 hidx hidx2
            go_wp2_with fail
            go_ret
            exact ⟨ret_b hG.out.symm, B4.out⟩
        · obtain rfl : k = 3 := by omega
          have HE3 := HEQ
          clear HEQ
          go_wp2_with fail
          refine (numbers_any w.heap.size _).mono ?_
          rintro e wa ⟨rfl, hba⟩
          have B2 := Lib.hid (bthen BR.out hba)
          have X2 := Lib.hid (XR.out.below hba)
          have Y2 := Lib.hid (YR.out.below hba)
          have hz1 : w.heap.size + 2 ≤ wa.heap.size := by have := hba.size; omega
          clear hba BR XR YR hzr hlt
          go_wp2_with fail
          go_loopw [43] (fun i wr => ∃ k : Nat, k ≤ 5 ∧ i = .int .i64 k ∧ Hid (eqN a b k) ∧ Hid (Below w.heap.size w wr) ∧ Hid (ClBox wr w.heap.size a p) ∧ Hid (ClBox wr (w.heap.size + 1) b q) ∧ w.heap.size + 2 ≤ wr.heap.size) (fun i _ => 5 - (intOf i).toNat)
          case atStart => exact ⟨0, Nat.zero_le _, rfl, Lib.hid (fun i hi => absurd hi (by omega)), B2, X2, Y2, hz1⟩
          case round =>
            obtain ⟨k, hk, rfl, HEQ, BR, XR, YR, hzr⟩ := hrel
            clear B2 X2 Y2
            by_cases hlt : k < 5
            · have hidx := fun W => idx_numbers w.heap.size k hlt W
              have hidx2 := fun W => idx_numbers (w.heap.size + 1) k hlt W
              have HKX : Hid (∀ W, Below wr.heap.size wr W → W.cell? ⟨w.heap.size, 11 + k, none⟩ = some (.int .i64 (numAt a k)) ∧ W.cell? ⟨w.heap.size + 1, 11 + k, none⟩ = some (.int .i64 (numAt b k))) := Lib.hid (fun W h => ⟨(XR.out.below h).num k hlt, (YR.out.below h).num k hlt⟩)
              have HNX := Lib.hid (HNN.out k)
              have HEN := Lib.hid (fun e => eqN_next (k := k) HEQ.out e)
              obtain ⟨x, HX⟩ : ∃ x, Hid (numAt a k = x) := ⟨_, Lib.hid rfl⟩
              obtain ⟨y, HY⟩ : ∃ x, Hid (numAt b k = x) := ⟨_, Lib.hid rfl⟩
              rw [HX.out, HY.out] at HKX HNX HEN
              obtain ⟨c1, c2⟩ := HKX.out wr (Below.refl _ _)
              have hk0 : (0 : Int) ≤ (k : Int) := by omega
              by_cases hxy : x = y
              · have HE2 := Lib.hid (HEN.out hxy)
                have e2 : (x != y) = false := by rw [hxy]; simp
                clear hxy
                go_wp2_with fail
                go_region_held3 (fun w' => w'.cell? ⟨w.heap.size, 11 + k, none⟩ = some (.int .i64 x) ∧ w'.cell? ⟨w.heap.size + 1, 11 + k, none⟩ = some (.int .i64 y))
                  (first
                    | go_keep
                    | (exact HKX.out _ HB3.out))
                  (first
                    | (go_at_call 75; refine (numbers_any (w.heap.size + 1) _).mono ?_; rintro e w3 ⟨rfl, hb3⟩; have HB3 : Hid (Below wr.heap.size wr w3) := Lib.hid ((Below.refl wr.heap.size wr).drew.trans hb3); clear hb3))
                have B4 := Lib.hid (bthen BR.out HB3.out)
                have X4 : Hid (ClBox w3 w.heap.size a p) := Lib.hid (XR.out.below HB3.out)
                have Y4 : Hid (ClBox w3 (w.heap.size + 1) b q) := Lib.hid (YR.out.below HB3.out)
                have hz4 : w.heap.size + 2 ≤ w3.heap.size := Nat.le_trans hzr (HB3.out).size
                clear HB3 c1 c2 hidx hidx2
                go_wp2_with fail
                go_roundw
                case rel => exact ⟨k + 1, hlt, by go_num, HE2, B4, X4, Y4, hz4⟩
                case measure => simp [intOf]; omega
              · have hG := Lib.hid (HNX.out hxy)
                have e2 : (x != y) = true := by rw [bne_iff_ne]; exact hxy
                clear hxy
                go_wp2_with fail
                go_region_held3 (fun w' => w'.cell? ⟨w.heap.size, 11 + k, none⟩ = some (.int .i64 x) ∧ w'.cell? ⟨w.heap.size + 1, 11 + k, none⟩ = some (.int .i64 y))
                  (first
                    | go_keep
                    | (exact HKX.out _ HB3.out))
                  (first
                    | (go_at_call 75; refine (numbers_any (w.heap.size + 1) _).mono ?_; rintro e w3 ⟨rfl, hb3⟩; have HB3 : Hid (Below wr.heap.size wr w3) := Lib.hid ((Below.refl wr.heap.size wr).drew.trans hb3); clear hb3))
                have B4 := Lib.hid (bthen BR.out HB3.out)
                clear HB3 c1 c2 hidx hidx2
                go_wp2_with fail
                go_ret
                exact ⟨ret_b hG.out.symm, B4.out⟩
            · obtain rfl : k = 5 := by omega
              have hG := Lib.hid (HAL.out HE8.out HE3.out HEQ.out)
              go_wp2_with fail
              go_ret
              exact ⟨ret_b hG.out.symm, BR.out⟩
end Go.Proofs.YtiiioefjdebggaaGreatDoor

/- The chapter's examples. -/
namespace Go.Proofs.YtiiioefjdebggaaGreatDoor
open Go.RowKit

def smpA : List ByteArray := [⟨#[109, 97, 105, 108]⟩, ⟨#[102, 105, 108, 101, 115]⟩]
def smpS : List ByteArray := [⟨#[109, 97, 105, 108, 46, 114, 101, 97, 100]⟩]
/-- The sample. -/
def smp : Cl := ⟨⟨#[97, 99, 99, 101, 115, 115]⟩, ⟨#[104, 116, 116, 112, 115, 58, 47, 47, 105, 100]⟩, ⟨#[97, 110, 110]⟩, ⟨#[119, 101, 98]⟩, ⟨#[116, 49]⟩, ⟨#[120, 49]⟩, ⟨#[]⟩, ⟨#[]⟩, smpA, smpS, [], 5, 5, 20, 3, 2⟩
def withLev (c : Cl) (n : Int) : Cl := ⟨c.kind, c.issuer, c.subject, c.client, c.tenant, c.id, c.session, c.nonce, c.aud, c.sco, c.act, c.issued, c.nb, c.exp, c.auth, n⟩
theorem smp_check : checkE smp = 0 := by decide +kernel
theorem smp_none : checkE (withAud smp []) = 6 := by decide +kernel
theorem smp_strong : checkE (withLev smp 4) = 27 := by decide +kernel
theorem smp_size : (encS smp).size ≤ 4096 ∧ 12 ≤ (encS smp).size := by decide +kernel
theorem smp_head : (encS smp).extract 0 12 = ⟨#[107, 105, 110, 100, 61, 97, 99, 99, 101, 115, 115, 10]⟩ := by decide +kernel
theorem smp_nar : narE smp [] smpA 20 = 0 ∧ eqB (narC smp [] smpA 20) (withSco smp []) = true := by decide +kernel
theorem smp_act1 : actEr smp ⟨#[97, 110, 110]⟩ = 28 := by decide +kernel
theorem smp_act2 : actEr smp ⟨#[98, 111, 98]⟩ = 0 := by decide +kernel
def exX : Ex := ⟨⟨#[97, 99, 99, 101, 115, 115]⟩, ⟨#[104, 116, 116, 112, 115, 58, 47, 47, 105, 100]⟩, ⟨#[102, 105, 108, 101, 115]⟩, ⟨#[116, 49]⟩, 19, 0⟩
def exL : Ex := ⟨⟨#[97, 99, 99, 101, 115, 115]⟩, ⟨#[104, 116, 116, 112, 115, 58, 47, 47, 105, 100]⟩, ⟨#[102, 105, 108, 101, 115]⟩, ⟨#[116, 49]⟩, 20, 0⟩
def exO : Ex := ⟨⟨#[97, 99, 99, 101, 115, 115]⟩, ⟨#[104, 116, 116, 112, 115, 58, 47, 47, 105, 100]⟩, ⟨#[120]⟩, ⟨#[116, 49]⟩, 19, 0⟩
theorem smp_al1 : allowE smp exX = 0 := by decide +kernel
theorem smp_al2 : allowE smp exL = 13 := by decide +kernel
theorem smp_al3 : allowE smp exO = 15 := by decide +kernel
end Go.Proofs.YtiiioefjdebggaaGreatDoor

/- For the laws' awake: the sample, variables by value. -/
namespace Go.Proofs.YtiiioefjdebggaaGreatDoor
open Go.RowKit

section
variable {ops : Array Oper} {o : Oper} {a : Act} {w : World} {K : Act → World → Prop} {Q : Exit → Act → World → Prop} {E : Prop}
theorem yields_load_cl {S : World → Prop} (hw : Region.wanted o (yielded ops a.tmps) = true) (x : Operand) (ho : o.op = .load 25 x) (b : Nat) (hx : a.eval x = .pointer (some ⟨b, 0, none⟩)) (c : Cl) (p : P3) (hS : ∀ w, S w → ClBox w b c p) : YieldsIf Tryz.prog ops S o (clV c p) a :=
  .inl ⟨hw, fun w hw' => by
    unfold execOp
    simp only [ho, hx, Sem.run_bind, Sem.run_pure, run_load_cl b c p w (hS w hw'), Result.andThen_ok]⟩
theorem step_alloc_cl (hg : o.guard = none) (ho : o.op = .alloc 25) (h : K (a.put o.dst (.pointer (some ⟨w.heap.size, 0, none⟩))) (w.alloc (clO cl0 p30))) :
    if Region.wanted o (yielded ops a.tmps) = true then Oper.wp Tryz.prog o a w K Q else E := by
  have hw : Region.wanted o (yielded ops a.tmps) = true := by simp [Region.wanted, hg]
  rw [if_pos hw]
  have hr : (Instr.alloc 25 true (.tuple #[])).run Tryz.prog w = .ok (.pointer (some ⟨w.heap.size, 0, none⟩)) (w.alloc (clO cl0 p30)) := by
    have hz : (zeroValue 25).run Tryz.prog w = .ok (clV cl0 p30) w := Tryz.zeroValue25 w
    simp only [Instr.alloc, Sem.run_bind, hz, newVar, newRow, run_newObj_alloc, Sem.run_pure, Result.andThen_ok]
    rfl
  unfold Oper.wp execOp
  simp only [ho, Sem.run_bind, hr, Sem.run_pure, Result.andThen_ok]
  exact h
theorem step_store_cl (hg : o.guard = none) (x y : Operand) (ho : o.op = .store 25 x y) (b : Nat) (hx : a.eval x = .pointer (some ⟨b, 0, none⟩)) (c : Cl) (p : P3) (hy : a.eval y = clV c p) (c0 : Cl) (p0 : P3) (hX : ClBox w b c0 p0) (h : K (a.put o.dst undef) (w.setRow b (clA c p))) :
    if Region.wanted o (yielded ops a.tmps) = true then Oper.wp Tryz.prog o a w K Q else E := by
  have hw : Region.wanted o (yielded ops a.tmps) = true := by simp [Region.wanted, hg]
  rw [if_pos hw]
  exact wp_store_row 25 x y ho b (clA c p) hx hy 25 (clA c0 p0) hX (by rw [clA_size]; exact cl_size) rfl (clA_one c p) h
end
theorem ClBox.other {w : World} {b b2 : Nat} {c : Cl} {p : P3} {cs : Array Value} (h : ClBox w b c p) (hb : b ≠ b2) : ClBox (w.setRow b2 cs) b c p := (setRow_other w b2 b cs hb).trans h
/-- Expectations by value. -/
def exA (x : Ex) : Array Value := #[.string x.kind, .string x.issuer, .string x.aud, .string x.tenant, .int .i64 x.now, .int .i64 x.skew]
def exO0 (x : Ex) : Obj := .cells (exA x) 34 (0, 0)
def ex0 : Ex := ⟨⟨#[]⟩, ⟨#[]⟩, ⟨#[]⟩, ⟨#[]⟩, 0, 0⟩
def ExBox (w : World) (b : Nat) (x : Ex) : Prop := w.heap[b]? = some (exO0 x)
theorem ExBox.below {w w' : World} {b : Nat} {x : Ex} (h : ExBox w b x) (hb : Below w.heap.size w w') : ExBox w' b x := (hb.block b (Array.getElem?_eq_some_iff.1 h).1).trans h
theorem exA_one (x : Ex) : (exA x).all (·.oneCell') = true := by simp [exA, Value.oneCell']
theorem ex_size : (Tryz.prog.info? 34).map (·.size) = some 6 := by kernel_rfl
theorem run_load_ex (b : Nat) (x : Ex) (w : World) (h : ExBox w b x) : (Instr.loadAt 34 (.pointer (some ⟨b, 0, none⟩))).run Tryz.prog w = .ok (exV x) w := by
  simp only [Instr.loadAt, Instr.sureAddr, Sem.run_bind, Sem.run_pure, Result.andThen_ok]
  exact run_loadVar_row w b 34 34 (exA x) (0, 0) _ h Tryz.underlying34 rfl ex_size
section
variable {ops : Array Oper} {rest : List Oper} {o : Oper} {a : Act} {w : World} {K : Act → World → Prop} {Q : Exit → Act → World → Prop} {E : Prop}
theorem load_ex (hg : o.guard = none) (t : TypeId) (ht : t = 34) (x : Operand) (ho : o.op = .load t x) (b : Nat) (hx : a.eval x = .pointer (some ⟨b, 0, none⟩)) (e : Ex) (hX : Hid (ExBox w b e))
    (h : wpList Tryz.prog ops Q rest (a.put o.dst (exV e)) w) : wpList Tryz.prog ops Q (o :: rest) a w := by
  subst ht
  exact wpList_load_row hg 34 x ho b hx 34 (exA e) (0, 0) _ hX.out Tryz.underlying34 rfl ex_size h
theorem run_alloc_ex (w : World) : (Instr.alloc 34 true (.tuple #[])).run Tryz.prog w = .ok (.pointer (some ⟨w.heap.size, 0, none⟩)) (w.alloc (exO0 ex0)) := by
  have hz : (zeroValue 34).run Tryz.prog w = .ok (exV ex0) w := Tryz.zeroValue34 w
  simp only [Instr.alloc, Sem.run_bind, hz, newVar, newRow, run_newObj_alloc, Sem.run_pure, Result.andThen_ok]
  rfl
theorem alloc_ex (hg : o.guard = none) (t : TypeId) (ht : t = 34) (ho : o.op = .alloc t)
    (h : wpList Tryz.prog ops Q rest (a.put o.dst (.pointer (some ⟨w.heap.size, 0, none⟩))) (w.alloc (exO0 ex0))) : wpList Tryz.prog ops Q (o :: rest) a w := by
  subst ht
  refine wpList_plain hg fun K hK => ?_
  unfold Oper.wp execOp
  simp only [ho, Sem.run_bind, run_alloc_ex, Sem.run_pure, Result.andThen_ok]
  exact hK _ _ h
theorem store_ex (hg : o.guard = none) (t : TypeId) (ht : t = 34) (x y : Operand) (ho : o.op = .store t x y) (b : Nat) (hx : a.eval x = .pointer (some ⟨b, 0, none⟩)) (e : Ex) (hy : a.eval y = exV e) (e0 : Ex) (hX : Hid (ExBox w b e0))
    (h : wpList Tryz.prog ops Q rest (a.put o.dst undef) (w.setRow b (exA e))) : wpList Tryz.prog ops Q (o :: rest) a w := by
  subst ht
  exact wpList_store_row hg 34 x y ho b (exA e) hx hy 34 (exA e0) hX.out ex_size rfl (exA_one e) h
theorem yields_load_ex {S : World → Prop} (hw : Region.wanted o (yielded ops a.tmps) = true) (x : Operand) (ho : o.op = .load 34 x) (b : Nat) (hx : a.eval x = .pointer (some ⟨b, 0, none⟩)) (e : Ex) (hS : ∀ w, S w → ExBox w b e) : YieldsIf Tryz.prog ops S o (exV e) a :=
  .inl ⟨hw, fun w hw' => by
    unfold execOp
    simp only [ho, hx, Sem.run_bind, Sem.run_pure, run_load_ex b e w (hS w hw'), Result.andThen_ok]⟩
theorem step_alloc_ex (hg : o.guard = none) (ho : o.op = .alloc 34) (h : K (a.put o.dst (.pointer (some ⟨w.heap.size, 0, none⟩))) (w.alloc (exO0 ex0))) :
    if Region.wanted o (yielded ops a.tmps) = true then Oper.wp Tryz.prog o a w K Q else E := by
  have hw : Region.wanted o (yielded ops a.tmps) = true := by simp [Region.wanted, hg]
  rw [if_pos hw]
  unfold Oper.wp execOp
  simp only [ho, Sem.run_bind, run_alloc_ex, Sem.run_pure, Result.andThen_ok]
  exact h
theorem step_store_ex (hg : o.guard = none) (x y : Operand) (ho : o.op = .store 34 x y) (b : Nat) (hx : a.eval x = .pointer (some ⟨b, 0, none⟩)) (e : Ex) (hy : a.eval y = exV e) (e0 : Ex) (hX : ExBox w b e0) (h : K (a.put o.dst undef) (w.setRow b (exA e))) :
    if Region.wanted o (yielded ops a.tmps) = true then Oper.wp Tryz.prog o a w K Q else E := by
  have hw : Region.wanted o (yielded ops a.tmps) = true := by simp [Region.wanted, hg]
  rw [if_pos hw]
  exact wp_store_row 34 x y ho b (exA e) hx hy 34 (exA e0) hX ex_size rfl (exA_one e) h
end
theorem ExBox.set {w : World} {b : Nat} {e0 e : Ex} (h : ExBox w b e0) : ExBox (w.setRow b (exA e)) b e := setRow_heap w b _ _ _ _ h
theorem ExBox.other {w : World} {b b2 : Nat} {e : Ex} {cs : Array Value} (h : ExBox w b e) (hb : b ≠ b2) : ExBox (w.setRow b2 cs) b e := (setRow_other w b2 b cs hb).trans h
theorem ExBox.new (w : World) (e : Ex) : ExBox (w.alloc (exO0 e)) w.heap.size e := heap_alloc_new w _
theorem dup_ex (W : World) : ExBox (W.alloc (exO0 ex0)) W.heap.size ex0 ∧ ExBox ((W.alloc (exO0 ex0)).alloc (exO0 ex0)) W.heap.size ex0 ∧ ExBox ((W.alloc (exO0 ex0)).alloc (exO0 ex0)) (W.heap.size + 1) ex0 :=
  ⟨ExBox.new _ _, (ExBox.new _ _).below ((Below.refl _ _).alloc (Nat.le_refl _) _), by have h := ExBox.new (W.alloc (exO0 ex0)) ex0; simpa using h⟩
theorem ExBox.put {w : World} {b : Nat} {x x' : Ex} (h : ExBox w b x) (k : Nat) (v : Value) (he : (exA x).setIfInBounds k v = exA x') : ExBox (w.setCell ⟨b, k, none⟩ v) b x' := by
  have := heap_setCell_same w b k _ _ v h
  rw [ExBox, this]
  exact congrArg (fun y => some (Obj.cells y 34 (0, 0))) he
/-- Variables that hold what they hold. -/
def Has (w : World) (l : List (Nat × Obj)) : Prop := ∀ x ∈ l, w.heap[x.1]? = some x.2
theorem Has.below {w w' : World} {l : List (Nat × Obj)} (h : Has w l) (hb : Below w.heap.size w w') : Has w' l := fun x hx => (hb.block x.1 (Array.getElem?_eq_some_iff.1 (h x hx)).1).trans (h x hx)
theorem Has.get {w : World} {l : List (Nat × Obj)} (h : Has w l) (b : Nat) (o : Obj) (hm : (b, o) ∈ l) : w.heap[b]? = some o := h (b, o) hm
theorem Has.row {w : World} {l : List (Nat × Obj)} (h : Has w l) (b : Nat) (cs : Array Value) (hn : ∀ x ∈ l, x.1 ≠ b) : Has (w.setRow b cs) l := fun x hx => (setRow_other w b x.1 cs (hn x hx)).trans (h x hx)
theorem Has.lt {w : World} {l : List (Nat × Obj)} (h : Has w l) : ∀ x ∈ l, x.1 < w.heap.size := fun x hx => (Array.getElem?_eq_some_iff.1 (h x hx)).1
theorem Has.add {w : World} {l : List (Nat × Obj)} (h : Has w l) {b : Nat} {o : Obj} (ho : w.heap[b]? = some o) : Has w ((b, o) :: l) := fun x hx => by
  rcases List.mem_cons.1 hx with rfl | hx
  · exact ho
  · exact h x hx
/-- A new variable that holds claims. -/
theorem Has.cl {w : World} {l : List (Nat × Obj)} (h : Has w l) (c : Cl) (p : P3) : Has ((w.alloc (clO cl0 p30)).setRow w.heap.size (clA c p)) ((w.heap.size, clO c p) :: l) :=
  Has.add ((h.below ((Below.refl _ _).alloc (Nat.le_refl _) _)).row _ _ (fun x hx => by have := h.lt x hx; omega)) ((ClBox.new w cl0 p30).set)
theorem below_cl (w : World) (c : Cl) (p : P3) : Below w.heap.size w ((w.alloc (clO cl0 p30)).setRow w.heap.size (clA c p)) := below_setRow ((Below.refl _ _).alloc (Nat.le_refl _) _) (Nat.le_refl _) _
/-- Two copies of a variable. -/
theorem dup_one (W : World) : ClBox (W.alloc (clO cl0 p30)) W.heap.size cl0 p30 ∧ ClBox ((W.alloc (clO cl0 p30)).alloc (clO cl0 p30)) W.heap.size cl0 p30 ∧ ClBox ((W.alloc (clO cl0 p30)).alloc (clO cl0 p30)) (W.heap.size + 1) cl0 p30 :=
  ⟨ClBox.new _ _ _, (ClBox.new _ _ _).below ((Below.refl _ _).alloc (Nat.le_refl _) _), by have h := ClBox.new (W.alloc (clO cl0 p30)) cl0 p30; simpa using h⟩
/-- Sizes that calls take. -/
def fitsB (c : Cl) : Bool := decide (c.kind.size ≤ 9223372036854775807) && decide (c.issuer.size ≤ 9223372036854775807) && decide (c.subject.size ≤ 9223372036854775807) && decide (c.client.size ≤ 9223372036854775807) && decide (c.tenant.size ≤ 9223372036854775807) && decide (c.id.size ≤ 9223372036854775807) && decide (c.session.size ≤ 9223372036854775807) && decide (c.nonce.size ≤ 9223372036854775807) &&
  decide (c.aud.length ≤ 9223372036854775807) && decide (c.sco.length ≤ 9223372036854775807) && decide (c.act.length ≤ 9223372036854775807) && decide (∀ s ∈ c.aud, s.size ≤ 9223372036854775807) && decide (∀ s ∈ c.sco, s.size ≤ 9223372036854775807) && decide (∀ s ∈ c.act, s.size ≤ 9223372036854775807) &&
  decide (-9223372036854775808 ≤ c.issued ∧ c.issued ≤ 9223372036854775807) && decide (-9223372036854775808 ≤ c.nb ∧ c.nb ≤ 9223372036854775807) && decide (-9223372036854775808 ≤ c.exp ∧ c.exp ≤ 9223372036854775807) && decide (-9223372036854775808 ≤ c.auth ∧ c.auth ≤ 9223372036854775807) && decide (-9223372036854775808 ≤ c.level ∧ c.level ≤ 9223372036854775807)
theorem ClIn.fits {c : Cl} {p : P3} (h : fitsB c = true) (hc : Caps c p) : ClIn c p := by
  simp only [fitsB, Bool.and_eq_true, decide_eq_true_eq] at h
  obtain ⟨⟨⟨⟨⟨⟨⟨⟨⟨⟨⟨⟨⟨⟨⟨⟨⟨⟨h0, h1⟩, h2⟩, h3⟩, h4⟩, h5⟩, h6⟩, h7⟩, m1⟩, m2⟩, m3⟩, z1⟩, z2⟩, z3⟩, i0⟩, i1⟩, i2⟩, i3⟩, i4⟩ := h
  exact ⟨h0, h1, h2, h3, h4, h5, h6, h7, hc.1, hc.2.1, hc.2.2, m1, m2, m3, z1, z2, z3, i0, i1, i2, i3, i4⟩
theorem smp_fits : fitsB smp = true ∧ fitsB (withAud smp []) = true ∧ fitsB (withLev smp 4) = true ∧ fitsB (withSco smp []) = true ∧ fitsB (narC smp [] smpA 20) = true := by decide +kernel
section
variable {ops : Array Oper} {rest : List Oper} {o : Oper} {a : Act} {w : World} {Q : Exit → Act → World → Prop}
/-- Loads under a guard that holds. -/
theorem load_cl_g (hw : Region.wanted o (yielded ops a.tmps) = true) (t : TypeId) (ht : t = 25) (x : Operand) (ho : o.op = .load t x) (b : Nat) (hx : a.eval x = .pointer (some ⟨b, 0, none⟩)) (c : Cl) (p : P3) (hX : Hid (ClBox w b c p))
    (h : wpList Tryz.prog ops Q rest (a.put o.dst (clV c p)) w) : wpList Tryz.prog ops Q (o :: rest) a w := by
  subst ht
  refine wpList_step fun K hK => ?_
  rw [if_pos hw]
  exact wp_load_row 25 x ho b hx 25 (clA c p) (0, 0) _ hX.out Tryz.underlying25 rfl (by rw [clA_size]; exact cl_size) (hK _ _ h)
theorem load_ex_g (hw : Region.wanted o (yielded ops a.tmps) = true) (t : TypeId) (ht : t = 34) (x : Operand) (ho : o.op = .load t x) (b : Nat) (hx : a.eval x = .pointer (some ⟨b, 0, none⟩)) (e : Ex) (hX : Hid (ExBox w b e))
    (h : wpList Tryz.prog ops Q rest (a.put o.dst (exV e)) w) : wpList Tryz.prog ops Q (o :: rest) a w := by
  subst ht
  refine wpList_step fun K hK => ?_
  rw [if_pos hw]
  exact wp_load_row 34 x ho b hx 34 (exA e) (0, 0) _ hX.out Tryz.underlying34 rfl ex_size (hK _ _ h)
end
end Go.Proofs.YtiiioefjdebggaaGreatDoor

/- The lists of checked claims do not lie in a variable that is still zero. -/
namespace Go.Proofs.YtiiioefjdebggaaGreatDoor
open Go.RowKit

/-- A block without a string that is not empty. -/
def Blank (o : Obj) : Prop := ∃ (cs : Array Value) (t : TypeId), o = .cells cs t (0, 0) ∧ ∀ (i : Nat) (s : ByteArray), cs[i]? = some (Value.string s) → s.size = 0
theorem blank_ky : Blank (kyO ky0) := by
  refine ⟨_, _, rfl, fun i s h => ?_⟩
  match i, h with
  | 0, h => injection h with h; injection h with h; subst h; rfl
  | 1, h => injection h with h; injection h with h; subst h; rfl
  | 2, h => injection h with h; cases h
  | 3, h => injection h with h; cases h
  | 4, h => injection h with h; cases h
  | 5, h => injection h with h; cases h
  | i + 6, h => simp at h
theorem blank_cl : Blank (clO cl0 p30) := by
  refine ⟨_, _, rfl, fun i s h => ?_⟩
  match i, h with
  | 0, h => injection h with h; injection h with h; subst h; rfl
  | 1, h => injection h with h; injection h with h; subst h; rfl
  | 2, h => injection h with h; injection h with h; subst h; rfl
  | 3, h => injection h with h; injection h with h; subst h; rfl
  | 4, h => injection h with h; injection h with h; subst h; rfl
  | 5, h => injection h with h; injection h with h; subst h; rfl
  | 6, h => injection h with h; injection h with h; subst h; rfl
  | 7, h => injection h with h; injection h with h; subst h; rfl
  | 8, h => injection h with h; cases h
  | 9, h => injection h with h; cases h
  | 10, h => injection h with h; cases h
  | 11, h => injection h with h; cases h
  | 12, h => injection h with h; cases h
  | 13, h => injection h with h; cases h
  | 14, h => injection h with h; cases h
  | 15, h => injection h with h; cases h
  | i + 16, h => simp at h
theorem Strs.noBlank {w : World} {A : Option Addr} {l : List ByteArray} (h : Strs w A l) (hl : ∀ s ∈ l, 1 ≤ s.size) {b : Nat} {o : Obj} (hb : w.heap[b]? = some o) (ho : Blank o) : ∀ q, A = some q → l ≠ [] → q.block ≠ b := by
  intro q hq hn e
  have h0 : 0 < l.length := by
    cases l with
    | nil => exact absurd rfl hn
    | cons x r => simp
  obtain ⟨b', o', eA, hc⟩ := h 0 h0
  rw [hq] at eA
  injection eA with eA
  subst eA
  obtain rfl : b' = b := e
  obtain ⟨cs, t, rfl, hz⟩ := ho
  rw [cell_of_row w b' (o' + 0) cs t (0, 0) hb] at hc
  have := hz _ _ hc
  have := hl _ (List.getElem_mem h0)
  omega
theorem word_one {s : ByteArray} (h : wordS s = true) : 1 ≤ s.size := by rw [wordS, Bool.and_eq_true, decide_eq_true_iff] at h; exact h.1.1
theorem clean_one {s : ByteArray} (h : cleanS s = true) : 1 ≤ s.size := by
  rw [cleanS, Bool.and_eq_true, Bool.and_eq_true, Bool.and_eq_true, decide_eq_true_iff] at h; exact h.1.1.1.1
theorem check_full {c : Cl} (h : checkE c = 0) : (∀ s ∈ c.aud, 1 ≤ s.size) ∧ (∀ s ∈ c.sco, 1 ≤ s.size) ∧ ∀ s ∈ c.act, 1 ≤ s.size := by
  obtain ⟨_, ha, hs, hc, _, _⟩ := check_ok h
  refine ⟨?_, ?_, ?_⟩
  · rw [audE] at ha
    split at ha
    · cases ha
    · split at ha
      · cases ha
      · exact fun s hm => word_one (audF_words _ _ ha s hm)
  · rw [scoE] at hs
    split at hs
    · cases hs
    · exact fun s hm => word_one (scoF_words _ _ hs s hm)
  · rw [actE] at hc
    split at hc
    · cases hc
    · exact fun s hm => clean_one (actF_clean _ hc s hm)
theorem ClAt.setBlank {w : World} {c : Cl} {q : P3} (h : ClAt w c q) (hc : checkE c = 0) {b : Nat} {o : Obj} (hb : w.heap[b]? = some o) (ho : Blank o) (cs : Array Value) : ClAt (w.setRow b cs) c q := by
  obtain ⟨h1, h2, h3⟩ := check_full hc
  exact ⟨h.aud.setRow' (h.aud.noBlank h1 hb ho), h.sco.setRow' (h.sco.noBlank h2 hb ho), h.act.setRow' (h.act.noBlank h3 hb ho)⟩
end Go.Proofs.YtiiioefjdebggaaGreatDoor

/- For token.Verify: expectations boxed, three results. -/
namespace Go.Proofs.YtiiioefjdebggaaGreatDoor
open Go.RowKit

section
variable {ops : Array Oper} {rest : List Oper} {o : Oper} {a : Act} {w : World} {Q : Exit → Act → World → Prop}
theorem box_ex (hg : o.guard = none) (t : TypeId) (ht : t = 34) (x : Operand) (ho : o.op = .box t x) (e : Ex) (hx : a.eval x = exV e)
    (h : wpList Tryz.prog ops Q rest (a.put o.dst (.pointer (some ⟨w.heap.size, 0, none⟩))) (w.alloc (exO0 e))) : wpList Tryz.prog ops Q (o :: rest) a w := by
  subst ht
  refine wpList_plain hg fun K hK => ?_
  unfold Oper.wp execOp
  simp only [ho, hx, Sem.run_bind, Instr.box, newVar, newRow, run_newObj_alloc, Sem.run_pure, Result.andThen_ok]
  exact hK _ _ h
end
theorem results_cct {fn : Func} {p r u : Tmp} {ty tz : TypeId} (h : fn.results = #[.cell p ty, .cell r tz, .tmp u]) (tmps : Array Value) (P : Program) (w : World) :
    (results fn tmps).run P w =
      ((asAddr (tmps.getD p undef)).run P w).andThen fun a w₁ => ((loadVar ty a).run P w₁).andThen fun v w₂ => ((asAddr (tmps.getD r undef)).run P w₂).andThen fun b w₃ => ((loadVar tz b).run P w₃).andThen fun v' w₄ => .ok (.tuple #[v, v', tmps.getD u undef]) w₄ := by
  simp only [results, h]
  simp [Sem.run_bind, Result.andThen]
theorem res_kct {fn : Func} {r u v : Tmp} (h : fn.results = #[.cell r 45, .cell u 25, .tmp v]) (tmps : Array Value) (w : World) (b g : Nat) (k : Ky) (c : Cl) (p : P3) (z : Value) (hr : tmps.getD r undef = .pointer (some ⟨b, 0, none⟩)) (hu : tmps.getD u undef = .pointer (some ⟨g, 0, none⟩)) (hX : KyBox w b k) (hY : ClBox w g c p) (hv : tmps.getD v undef = z) :
    (results fn tmps).run Tryz.prog w = .ok (.tuple #[kyV k, clV c p, z]) w := by
  have hl : (loadVar 45 ⟨b, 0, none⟩).run Tryz.prog w = .ok (.agg (kyA k)) w := run_loadVar_row w b 45 45 (kyA k) (0, 0) _ hX Tryz.underlying45 rfl (by rw [kyA_size]; exact ky_size)
  have hm : (loadVar 25 ⟨g, 0, none⟩).run Tryz.prog w = .ok (.agg (clA c p)) w := run_loadVar_row w g 25 25 (clA c p) (0, 0) _ hY Tryz.underlying25 rfl (by rw [clA_size]; exact cl_size)
  rw [results_cct h, hr, hu, hv]
  simp only [asAddr, Sem.run_pure, Result.andThen_ok, hl, hm]
  rfl
theorem ExBox.cells {w : World} {b : Nat} {x : Ex} (h : ExBox w b x) : w.cell? ⟨b, 4, none⟩ = some (.int .i64 x.now) ∧ w.cell? ⟨b, 5, none⟩ = some (.int .i64 x.skew) :=
  ⟨cell_of_row w b 4 _ _ (0, 0) h, cell_of_row w b 5 _ _ (0, 0) h⟩
/-- What verified returns. -/
def RetVer (l : List Ky) (s : ByteArray) (x : Ex) (e : Ending) (w' : World) : Prop := ∃ q, e = .returned (.tuple #[kyV (verK l s x), clV (verC l s x) q, .int .i64 (verE l s x)]) ∧ ClAt w' (verC l s x) q ∧ ClIn (verC l s x) q
theorem ClIn.zero : ClIn cl0 p30 := ClIn.fits (by decide +kernel) ⟨Nat.le_refl _, Nat.le_refl _, Nat.le_refl _⟩
theorem RetVer.bad {l : List Ky} {s : ByteArray} {x : Ex} {E : Int} {w' : World} (h : verE l s x = E) (h0 : E ≠ 0) : RetVer l s x (.returned (.tuple #[kyV ky0, clV cl0 p30, .int .i64 E])) w' := by
  obtain ⟨h1, h2⟩ := ver_err (l := l) (s := s) (x := x) (by rw [h]; exact h0)
  exact ⟨p30, by rw [h1, h2, h], by rw [h2]; exact ⟨Strs.nil_ _ _, Strs.nil_ _ _, Strs.nil_ _ _⟩, by rw [h2]; exact ClIn.zero⟩
theorem RetVer.good {l : List Ky} {s : ByteArray} {x : Ex} {w' : World} {k : Ky} {c : Cl} {q : P3} (h : verE l s x = 0) (hk : verK l s x = k) (hc : verC l s x = c) (ha : ClAt w' c q) (hi : ClIn c q) : RetVer l s x (.returned (.tuple #[kyV k, clV c q, .int .i64 0])) w' :=
  ⟨q, by rw [h, hk, hc], by rw [hc]; exact ha, by rw [hc]; exact hi⟩
theorem decE_ne (s : ByteArray) : decE s ≠ 0 := by rw [decE]; split <;> decide
/-- The boxes of verified. -/
theorem has3 (w : World) (x : Ex) : Has (((w.alloc (exO0 x)).alloc (kyO ky0)).alloc (clO cl0 p30)) [(w.heap.size, exO0 x), (w.heap.size + 1, kyO ky0), (w.heap.size + 2, clO cl0 p30)] ∧ Below w.heap.size w (((w.alloc (exO0 x)).alloc (kyO ky0)).alloc (clO cl0 p30)) := by
  have b1 : Below w.heap.size w (w.alloc (exO0 x)) := (Below.refl _ _).alloc (Nat.le_refl _) _
  have z1 : (w.alloc (exO0 x)).heap.size = w.heap.size + 1 := by simp
  have b2 : Below (w.alloc (exO0 x)).heap.size (w.alloc (exO0 x)) ((w.alloc (exO0 x)).alloc (kyO ky0)) := (Below.refl _ _).alloc (Nat.le_refl _) _
  have z2 : ((w.alloc (exO0 x)).alloc (kyO ky0)).heap.size = w.heap.size + 2 := by simp
  have b3 : Below ((w.alloc (exO0 x)).alloc (kyO ky0)).heap.size ((w.alloc (exO0 x)).alloc (kyO ky0)) (((w.alloc (exO0 x)).alloc (kyO ky0)).alloc (clO cl0 p30)) := (Below.refl _ _).alloc (Nat.le_refl _) _
  have h1 := ExBox.new w x
  have h2 := KyBox.new (w.alloc (exO0 x)) ky0
  have h3 := ClBox.new ((w.alloc (exO0 x)).alloc (kyO ky0)) cl0 p30
  rw [z1] at h2
  rw [z2] at h3
  refine ⟨?_, bthen b1 (bthen b2 b3)⟩
  exact (((Has.add (l := []) (fun y hy => by simp at hy) h3).add (h2.below b3)).add ((h1.below b2).below b3))
end Go.Proofs.YtiiioefjdebggaaGreatDoor

/- token.verified. -/
namespace Go.Proofs.YtiiioefjdebggaaGreatDoor
open Go.RowKit

set_option linter.unusedSimpArgs false in
set_option maxHeartbeats 16000000 in
set_option maxRecDepth 100000 in
theorem verified_any (l : List Ky) (A : Option Addr) (cc : Nat) (s : ByteArray) (x : Ex) (w : World) (hd : DigOk w) (hp : PowOk w) (hk : KeysOk w) (he : ErrsOk w) (hS : KysAt w A l) (hl : l.length ≤ 9223372036854775807) (hs : s.size ≤ 140737488351232)
    (hz : ∀ k ∈ l, wordS k.id = true → k.sec.size ≤ 140737488351232) :
    Calls Tryz.prog 49 #[.slice A l.length cc, .string s, exV x] w fun e w' => RetVer l s x e w' ∧ Below w.heap.size w w' := by
  have HDD := Lib.hid hd
  have HPP := Lib.hid hp
  have HKK := Lib.hid hk
  have HEE := Lib.hid he
  have HS := Lib.hid hS
  have HSZ := Lib.hid hz
  obtain ⟨hh0, hb0⟩ := has3 w x
  have H0 := Lib.hid hh0
  have B0 := Lib.hid hb0
  clear hd hp hk he hS hz hh0 hb0
  obtain ⟨gk, HGK⟩ : ∃ g, Hid (w.heap.size + 1 = g) := ⟨_, Lib.hid rfl⟩
  obtain ⟨gc, HGC⟩ : ∃ g, Hid (w.heap.size + 2 = g) := ⟨_, Lib.hid rfl⟩
  obtain ⟨W0, HW0⟩ : ∃ W, Hid ((((w.alloc (exO0 x)).alloc (kyO ky0)).alloc (clO cl0 p30)) = W) := ⟨_, Lib.hid rfl⟩
  rw [HGK.out, HGC.out] at H0
  rw [HW0.out] at H0 B0
  have hgk : w.heap.size < gk := by have := HGK.out; omega
  have hgc : gk < gc := by have := HGK.out; have := HGC.out; omega
  have e1 : (w.alloc (exO0 x)).heap.size = gk := by rw [← HGK.out]; simp
  have e2 : ((w.alloc (exO0 x)).alloc (kyO ky0)).heap.size = gc := by rw [← HGC.out]; simp
  go_enter Tryz.func49, Tryz.ntmps49
  go_upto_region 1 with (first
    | (refine box_ex rfl _ rfl _ rfl x rfl ?_)
    | (refine alloc_ky rfl _ rfl rfl ?_; rw [e1])
    | (refine alloc_cl rfl _ rfl rfl ?_; rw [e2, HW0.out])
    | fail)
  clear e1 e2 HW0 HGK HGC
  go_wp2_with fail
  refine (split26_any s _ (HDD.out.below B0.out) (by omega)).mono ?_
  rintro e w1 ⟨⟨id, text, sum, rfl, ht, ha, hb, hc⟩ | ⟨rfl, hn⟩, hb1⟩
  · have HT := Lib.hid ht
    have B1 := Lib.hid (bthen B0.out hb1)
    have H1 := Lib.hid (H0.out.below hb1)
    clear ht hb1 H0 B0
    obtain ⟨x4, x5⟩ := ExBox.cells (x := x) (H1.out.get w.heap.size (exO0 x) (by simp))
    go_wp2_with fail
    refine (accepting_any l A cc id x.now x.skew _ (HS.out.below B1.out) hl).mono ?_
    rintro e w2 ⟨rfl, hb2⟩
    have B2 := Lib.hid (bthen B1.out hb2)
    have H2 := Lib.hid (H1.out.below hb2)
    clear hb2 H1 B1 x4 x5
    have Z2 : Hid (KyBox (w2.alloc (kyO ky0)) w2.heap.size ky0) := Lib.hid (KyBox.new _ _)
    have HF := Lib.hid (fun k (h : findK l id = some k) => findK_has h)
    have HW : Hid (wordS id = true) := Lib.hid HT.out.1
    rcases hfk : findK l id with _ | k
    · have HA := Lib.hid (accK_none hfk x.now x.skew)
      rw [HA.out.1, HA.out.2]
      have HR : Hid (∀ w', RetVer l s x (.returned (.tuple #[kyV ky0, clV cl0 p30, .int .i64 26])) w') := Lib.hid (fun w' => RetVer.bad (ver_key HT.out hfk) (by decide))
      have H3 : Hid (Has ((w2.alloc (kyO ky0)).setRow w2.heap.size (kyA ky0)) _) := Lib.hid (H2.out.below (below_ky w2 ky0 ky0))
      have B3 := Lib.hid (bthen B2.out (below_ky w2 ky0 ky0))
      obtain ⟨W3, HW3⟩ : ∃ W, Hid (((w2.alloc (kyO ky0)).setRow w2.heap.size (kyA ky0)) = W) := ⟨_, Lib.hid rfl⟩
      rw [HW3.out] at H3 B3
      clear hfk HA
      go_upto_region 5 with (first
        | (refine alloc_ky rfl _ rfl rfl ?_)
        | (refine store_ky rfl _ rfl _ _ rfl w2.heap.size rfl ky0 rfl ky0 Z2 ?_; rw [HW3.out])
        | fail)
      have KB : Hid (KyBox W3 gk ky0) := Lib.hid (H3.out.get gk _ (by simp))
      have CB : Hid (ClBox (W3.setRow gk (kyA ky0)) gc cl0 p30) := Lib.hid (ClBox.other (H3.out.get gc _ (by simp)) (by omega))
      have CB2 := Lib.hid (CB.out.set (c := cl0) (p := p30))
      have KB2 : Hid (KyBox ((W3.setRow gk (kyA ky0)).setRow gc (clA cl0 p30)) gk ky0) := Lib.hid (KB.out.set.other (by omega))
      have BZ : Hid (Below w.heap.size w ((W3.setRow gk (kyA ky0)).setRow gc (clA cl0 p30))) := Lib.hid (below_setRow (below_setRow B3.out (by omega) _) (by omega) _)
      go_wp2_with (first
        | (refine build_ky rfl _ rfl rfl ?_)
        | (refine build_cl rfl _ rfl rfl ?_)
        | (refine store_ky rfl _ rfl _ _ rfl gk rfl ky0 rfl ky0 KB ?_)
        | (refine store_cl rfl _ rfl _ _ rfl gc rfl cl0 p30 rfl cl0 p30 CB ?_)
        | fail)
      refine bodyPost_ret (v := .tuple #[kyV ky0, clV cl0 p30, .int .i64 26]) (res_kct Tryz.results49 _ _ gk gc ky0 cl0 p30 _ rfl rfl KB2.out CB2.out rfl) rfl ⟨HR.out _, BZ.out⟩
    · obtain ⟨hm, hid⟩ := HF.out k hfk
      have hkz := HSZ.out k hm (by rw [hid]; exact HW.out)
      have HFK := Lib.hid hfk
      have HA := Lib.hid (accK_some hfk x.now x.skew)
      have HID := Lib.hid hid
      clear hfk hid hm HF
      obtain ⟨E, HE⟩ : ∃ E, Hid (windowE k.af k.au x.now x.skew = E) := ⟨_, Lib.hid rfl⟩
      rw [HE.out] at HA
      by_cases h0 : E = 0
      · have hEb : (E == 0) = true := by rw [h0]; rfl
        have HWN : Hid (windowE k.af k.au x.now x.skew = 0) := Lib.hid (HE.out.trans h0)
        rw [HA.out.1, HA.out.2, if_pos h0]
        subst h0
        have Y3 : Hid (KyBox ((w2.alloc (kyO ky0)).setRow w2.heap.size (kyA k)) w2.heap.size k) := Lib.hid Z2.out.set
        have H3 : Hid (Has ((w2.alloc (kyO ky0)).setRow w2.heap.size (kyA k)) _) := Lib.hid (H2.out.below (below_ky w2 ky0 k))
        have B3 := Lib.hid (bthen B2.out (below_ky w2 ky0 k))
        have B2G : Hid (gc < w2.heap.size) := Lib.hid (H2.out.lt (gc, clO cl0 p30) (by simp))
        obtain ⟨W3, HW3⟩ : ∃ W, Hid (((w2.alloc (kyO ky0)).setRow w2.heap.size (kyA k)) = W) := ⟨_, Lib.hid rfl⟩
        obtain ⟨g, HGG⟩ : ∃ g, Hid (w2.heap.size = g) := ⟨_, Lib.hid rfl⟩
        rw [HW3.out] at H3 B3
        rw [HW3.out, HGG.out] at Y3
        rw [HGG.out] at B2G
        have hgg := B2G.out
        clear H2 B2 HA HE
        go_upto_region 7 with (first
          | (refine alloc_ky rfl _ rfl rfl ?_)
          | (refine store_ky rfl _ rfl _ _ rfl w2.heap.size rfl k rfl ky0 Z2 ?_; rw [HW3.out, HGG.out])
          | fail)
        clear Z2 HW3
        have hhz := headS_size id text
        have hts := tok_size HT.out
        have HHZ := Lib.hid hhz
        have HSS := Lib.hid (sgnS_size k.sec (headS id text))
        have HV1 := Lib.hid (ver_sig (l := l) (x := x) HT.out HFK.out HWN.out)
        have HV2 := Lib.hid (ver_dec (l := l) (x := x) HT.out HFK.out HWN.out)
        have HV3 := Lib.hid (fun c => ver_all (l := l) (x := x) (c := c) HT.out HFK.out HWN.out)
        have HV4 := Lib.hid (fun c => ver_get (l := l) (x := x) (c := c) HT.out HFK.out)
        have HHD := Lib.hid (fun w' (h1 : DigOk w') (h2 : PowOk w') => head_any id text w' (by omega) (by omega))
        have HSG := Lib.hid (fun w' (h1 : DigOk w') (h2 : PowOk w') => signature_any k (headS id text) w' h1 h2 (by omega) (by omega))
        have HDX := Lib.hid (HDD.out.below B3.out).drew
        have HPX := Lib.hid ((HPP.out.below B3.out).below ((Below.refl _ _).drew))
        obtain ⟨H, HH⟩ : ∃ h, Hid (headS id text = h) := ⟨_, Lib.hid rfl⟩
        rw [HH.out] at HV1 HV2 HV3 HSS HHD HSG
        obtain ⟨S, HSN⟩ : ∃ h, Hid (sgnS k.sec H = h) := ⟨_, Lib.hid rfl⟩
        rw [HSN.out] at HV1 HV2 HV3 HSS HSG
        clear hhz hts
        obtain ⟨q0, q1, q2, q3, q4, q5⟩ := Y3.out.cells
        have HQ := Lib.hid Y3.out.cells
        have YD : Hid (KyBox W3.drew g k) := Lib.hid Y3.out
        by_cases hse : sum = S
        · have t1 : (sum.toList == S.toList) = true := by rw [hse]; simp
          have t2 : (sum.toList != S.toList) = false := by rw [hse]; simp
          have t4 : (!sum.toList == S.toList) = false := by rw [hse]; simp
          have HV2' := Lib.hid (HV2.out hse)
          have HV3' := Lib.hid (fun c => HV3.out c hse)
          clear hse HV1 HV2 HV3
          go_region_held3 (fun w' => w'.cell? ⟨g, 0, none⟩ = some (.string k.id) ∧ w'.cell? ⟨g, 1, none⟩ = some (.string k.sec) ∧ w'.cell? ⟨g, 2, none⟩ = some (.int .i64 k.sf) ∧ w'.cell? ⟨g, 3, none⟩ = some (.int .i64 k.su) ∧ w'.cell? ⟨g, 4, none⟩ = some (.int .i64 k.af) ∧ w'.cell? ⟨g, 5, none⟩ = some (.int .i64 k.au))
            (first | go_keep | (exact ((YD.out.below hb4).below hb5).cells) | (exact (YD.out.below hb4).cells) | (exact HQ.out))
            (first
              | (go_at_call 41; refine (Calls.mono (HHD.out _ HDX.out HPX.out) ?_); rintro e w4 ⟨rfl, hb4⟩)
              | (go_at_call 42; refine (Calls.mono (HSG.out _ (HDX.out.below hb4) (HPX.out.below hb4)) ?_); rintro e w5 ⟨rfl, hb5⟩)
              | fail)
          have hbd : Below W3.heap.size W3 w5 := ((Below.refl _ _).drew).trans (bthen hb4 hb5)
          have B5 := Lib.hid (bthen B3.out hbd)
          have H5 := Lib.hid (H3.out.below hbd)
          have Y5 := Lib.hid (Y3.out.below hbd)
          clear hb4 hb5 hbd q0 q1 q2 q3 q4 q5 HQ YD HHD HSG HDX HPX B3 H3 Y3
          go_wp2_with fail
          refine (decode_any text _ (by omega) (HKK.out.below B5.out) (HPP.out.below B5.out) (HEE.out.below B5.out)).mono ?_
          rintro e w6 ⟨⟨c, q, rfl, hdc, hac, hic⟩ | ⟨rfl, hdn⟩, hb6⟩
          · have HVA := Lib.hid (HV3'.out c hdc)
            have HVG := Lib.hid (HV4.out c hdc)
            have Z6 : Hid (ClBox (w6.alloc (clO cl0 p30)) w6.heap.size cl0 p30) := Lib.hid (ClBox.new _ _ _)
            have B6 := Lib.hid (bthen B5.out (bthen hb6 (below_cl w6 c q)))
            have H6 := Lib.hid ((H5.out.below hb6).below (below_cl w6 c q))
            have Y6 := Lib.hid ((Y5.out.below hb6).below (below_cl w6 c q))
            have D6 := Lib.hid (hac.below (below_cl w6 c q))
            have X6 : Hid (ClBox ((w6.alloc (clO cl0 p30)).setRow w6.heap.size (clA c q)) w6.heap.size c q) := Lib.hid Z6.out.set
            have IC := Lib.hid hic
            have hg6 : g < w6.heap.size := Nat.lt_of_lt_of_le Y5.out.lt hb6.size
            obtain ⟨g6, HG6⟩ : ∃ g, Hid (w6.heap.size = g) := ⟨_, Lib.hid rfl⟩
            obtain ⟨W6, HW6⟩ : ∃ W, Hid (((w6.alloc (clO cl0 p30)).setRow w6.heap.size (clA c q)) = W) := ⟨_, Lib.hid rfl⟩
            rw [HW6.out] at B6 H6 Y6 D6
            rw [HW6.out, HG6.out] at X6
            rw [HG6.out] at hg6
            have XX : Hid (ExBox W6 w.heap.size x) := Lib.hid (H6.out.get w.heap.size _ (by simp))
            have HCK := Lib.hid hdc.1
            clear hdc hac hic hb6 B5 H5 Y5 HV2' HV3' HV4
            go_wp2_with (first
              | (refine alloc_cl rfl _ rfl rfl ?_)
              | (refine store_cl rfl _ rfl _ _ rfl w6.heap.size rfl c q rfl cl0 p30 Z6 ?_; rw [HW6.out, HG6.out])
              | (refine load_cl rfl _ rfl _ rfl g6 rfl c q X6 ?_)
              | (refine load_ex rfl _ rfl _ rfl w.heap.size rfl x XX ?_)
              | fail)
            clear Z6 HW6 XX
            refine (allow_any c q x _ IC.out.m1 D6.out).mono ?_
            rintro e w7 ⟨rfl, hb7⟩
            obtain ⟨E, HE⟩ : ∃ E, Hid (allowE c x = E) := ⟨_, Lib.hid rfl⟩
            rw [HE.out] at HVA
            rw [HE.out]
            have B7 := Lib.hid (bthen B6.out hb7)
            have H7 := Lib.hid (H6.out.below hb7)
            have Y7 := Lib.hid (Y6.out.below hb7)
            have X7 := Lib.hid (X6.out.below hb7)
            have D7 := Lib.hid (D6.out.below hb7)
            clear hb7 B6 H6 Y6 X6 D6
            by_cases h0 : E = 0
            · have hEb : (E == 0) = true := by rw [h0]; rfl
              have HV0 := Lib.hid (HVA.out.trans h0)
              have HVK := Lib.hid (HVG.out HV0.out)
              subst h0
              have KB : Hid (KyBox w7 gk ky0) := Lib.hid (H7.out.get gk _ (by simp))
              have CB : Hid (ClBox w7 gc cl0 p30) := Lib.hid (H7.out.get gc _ (by simp))
              go_upto_region 14 with fail
              refine wp_region_held_drew (S := fun w' => KyBox w' g k ∧ ClBox w' g6 c q) (by kernel_rfl) ?_ (fun hHeld => ?_)
              · exact ⟨Y7.out, X7.out⟩
              refine wpAnyH_take (i := 0) (oi := _) (v := kyV k) rfl (by kernel_rfl) (by kernel_rfl) (by kernel_rfl) (fun _ _ _ h => h) (yields_load_ky (by rfl) _ rfl g rfl k (fun _ h => h.1)) hHeld ?_
              simp only [List.getElem_toArray, List.getElem_cons_succ, List.getElem_cons_zero, Act.put, List.setIfInBounds_toArray, List.set_cons_zero, List.set_cons_succ]
              refine wpAnyH_take (i := 1) (oi := _) (v := clV c q) rfl (by kernel_rfl) (by kernel_rfl) (by kernel_rfl) (fun _ _ _ h => h) (yields_load_cl (by rfl) _ rfl g6 rfl c q (fun _ h => h.2)) hHeld ?_
              simp only [List.getElem_toArray, List.getElem_cons_succ, List.getElem_cons_zero, Act.put, List.setIfInBounds_toArray, List.set_cons_zero, List.set_cons_succ]
              refine wpAnyH_ready (rs := [2]) (by kernel_rfl) (by simp) ?_
              refine AllReadyH.cons (o := _) rfl (fun K hK => ?_) AllReadyH.nil
              refine step_store_ky rfl _ _ rfl gk rfl k rfl ky0 KB.out ?_
              simp only [List.getElem_toArray, List.getElem_cons_succ, List.getElem_cons_zero, Act.put, List.setIfInBounds_toArray, List.set_cons_zero, List.set_cons_succ]
              refine hK.out _ _ ?_ (fun hHeld2 => ?_)
              · exact ⟨KyBox.other Y7.out (by omega), ClBox.other X7.out (by omega)⟩
              refine wpAnyH_ready (rs := [3]) (by kernel_rfl) (by simp) ?_
              refine AllReadyH.cons (o := _) rfl (fun K2 hK2 => ?_) AllReadyH.nil
              refine step_store_cl rfl _ _ rfl gc rfl c q rfl cl0 p30 (ClBox.other CB.out (by omega)) ?_
              simp only [List.getElem_toArray, List.getElem_cons_succ, List.getElem_cons_zero, Act.put, List.setIfInBounds_toArray, List.set_cons_zero, List.set_cons_succ]
              refine hK2.out _ _ ?_ (fun hHeld3 => ?_)
              · exact ⟨KyBox.other hHeld2.1 (by omega), ClBox.other hHeld2.2 (by omega)⟩
              refine wpAnyH_take (i := 4) (oi := _) (v := .int .i64 0) rfl (by kernel_rfl) (by kernel_rfl) (by kernel_rfl) (fun _ _ _ h => h) (Or.inl ⟨by rfl, ?_⟩) hHeld3 ?_
              · intro w' hSw
                go_simp
              simp only [List.getElem_toArray, List.getElem_cons_succ, List.getElem_cons_zero, Act.put, List.setIfInBounds_toArray, List.set_cons_zero, List.set_cons_succ]
              refine wpAnyH_done (by kernel_rfl) ?_ _
              have KB2 : Hid (KyBox ((w7.drew.setRow gk (kyA k)).setRow gc (clA c q)) gk k) := Lib.hid (KyBox.other (KyBox.set (k0 := ky0) KB.out) (by omega))
              have CB2 : Hid (ClBox ((w7.drew.setRow gk (kyA k)).setRow gc (clA c q)) gc c q) := Lib.hid (ClBox.set (c0 := cl0) (p0 := p30) (ClBox.other CB.out (by omega)))
              have BZ : Hid (Below w.heap.size w ((w7.drew.setRow gk (kyA k)).setRow gc (clA c q))) := Lib.hid (below_setRow (below_setRow B7.out.drew (by omega) _) (by omega) _)
              have DZ : Hid (ClAt ((w7.drew.setRow gk (kyA k)).setRow gc (clA c q)) c q) := Lib.hid (ClAt.setBlank (ClAt.setBlank (D7.out.below ((Below.refl _ _).drew)) HCK.out (b := gk) KB.out blank_ky _) HCK.out (b := gc) (ClBox.other CB.out (by omega)) blank_cl _)
              go_wp2_with fail
              refine bodyPost_ret (v := .tuple #[kyV k, clV c q, .int .i64 0]) (res_kct Tryz.results49 _ _ gk gc k c q _ rfl rfl KB2.out CB2.out rfl) rfl ⟨RetVer.good HV0.out HVK.out.1 HVK.out.2 DZ.out IC.out, BZ.out⟩
            · have hEb : (E == 0) = false := by simpa using h0
              have HR : Hid (∀ w', RetVer l s x (.returned (.tuple #[kyV ky0, clV cl0 p30, .int .i64 E])) w') := Lib.hid (fun w' => RetVer.bad HVA.out h0)
              clear h0
              have KB : Hid (KyBox w7 gk ky0) := Lib.hid (H7.out.get gk _ (by simp))
              have CB : Hid (ClBox (w7.setRow gk (kyA ky0)) gc cl0 p30) := Lib.hid (ClBox.other (H7.out.get gc _ (by simp)) (by omega))
              have CB2 := Lib.hid (CB.out.set (c := cl0) (p := p30))
              have KB2 : Hid (KyBox ((w7.setRow gk (kyA ky0)).setRow gc (clA cl0 p30)) gk ky0) := Lib.hid (KB.out.set.other (by omega))
              have BZ : Hid (Below w.heap.size w ((w7.setRow gk (kyA ky0)).setRow gc (clA cl0 p30))) := Lib.hid (below_setRow (below_setRow B7.out (by omega) _) (by omega) _)
              go_wp2_with (first
                | (refine build_ky rfl _ rfl rfl ?_)
                | (refine build_cl rfl _ rfl rfl ?_)
                | (refine store_ky rfl _ rfl _ _ rfl gk rfl ky0 rfl ky0 KB ?_)
                | (refine store_cl rfl _ rfl _ _ rfl gc rfl cl0 p30 rfl cl0 p30 CB ?_)
                | fail)
              refine bodyPost_ret (v := .tuple #[kyV ky0, clV cl0 p30, .int .i64 E]) (res_kct Tryz.results49 _ _ gk gc ky0 cl0 p30 _ rfl rfl KB2.out CB2.out rfl) rfl ⟨HR.out _, BZ.out⟩
          · have HVA := Lib.hid (HV2'.out hdn)
            have hne := decE_ne text
            obtain ⟨E, HE⟩ : ∃ E, Hid (decE text = E) := ⟨_, Lib.hid rfl⟩
            rw [HE.out] at HVA hne
            rw [HE.out]
            have hEb : (E == 0) = false := by simpa using hne
            have HR : Hid (∀ w', RetVer l s x (.returned (.tuple #[kyV ky0, clV cl0 p30, .int .i64 E])) w') := Lib.hid (fun w' => RetVer.bad HVA.out hne)
            have Z6 : Hid (ClBox (w6.alloc (clO cl0 p30)) w6.heap.size cl0 p30) := Lib.hid (ClBox.new _ _ _)
            have B6 := Lib.hid (bthen B5.out (bthen hb6 (below_cl w6 cl0 p30)))
            have H6 := Lib.hid ((H5.out.below hb6).below (below_cl w6 cl0 p30))
            obtain ⟨W6, HW6⟩ : ∃ W, Hid (((w6.alloc (clO cl0 p30)).setRow w6.heap.size (clA cl0 p30)) = W) := ⟨_, Lib.hid rfl⟩
            rw [HW6.out] at B6 H6
            clear hdn hb6 B5 H5 Y5 HV2' HV3' HV4 hne
            go_upto_region 10 with (first
              | (refine alloc_cl rfl _ rfl rfl ?_)
              | (refine store_cl rfl _ rfl _ _ rfl w6.heap.size rfl cl0 p30 rfl cl0 p30 Z6 ?_; rw [HW6.out])
              | fail)
            have KB : Hid (KyBox W6 gk ky0) := Lib.hid (H6.out.get gk _ (by simp))
            have CB : Hid (ClBox (W6.setRow gk (kyA ky0)) gc cl0 p30) := Lib.hid (ClBox.other (H6.out.get gc _ (by simp)) (by omega))
            have CB2 := Lib.hid (CB.out.set (c := cl0) (p := p30))
            have KB2 : Hid (KyBox ((W6.setRow gk (kyA ky0)).setRow gc (clA cl0 p30)) gk ky0) := Lib.hid (KB.out.set.other (by omega))
            have BZ : Hid (Below w.heap.size w ((W6.setRow gk (kyA ky0)).setRow gc (clA cl0 p30))) := Lib.hid (below_setRow (below_setRow B6.out (by omega) _) (by omega) _)
            go_wp2_with (first
              | (refine build_ky rfl _ rfl rfl ?_)
              | (refine build_cl rfl _ rfl rfl ?_)
              | (refine store_ky rfl _ rfl _ _ rfl gk rfl ky0 rfl ky0 KB ?_)
              | (refine store_cl rfl _ rfl _ _ rfl gc rfl cl0 p30 rfl cl0 p30 CB ?_)
              | fail)
            refine bodyPost_ret (v := .tuple #[kyV ky0, clV cl0 p30, .int .i64 E]) (res_kct Tryz.results49 _ _ gk gc ky0 cl0 p30 _ rfl rfl KB2.out CB2.out rfl) rfl ⟨HR.out _, BZ.out⟩
        · have t1 : (sum.toList == S.toList) = false := str_ne hse
          have t2 : (sum.toList != S.toList) = true := by rw [bne, t1]; rfl
          have t4 : (!sum.toList == S.toList) = true := by rw [t1]; rfl
          have HR : Hid (∀ w', RetVer l s x (.returned (.tuple #[kyV ky0, clV cl0 p30, .int .i64 17])) w') := Lib.hid (fun w' => RetVer.bad (HV1.out hse) (by decide))
          clear hse HV1 HV2 HV3 HV4
          go_region_held3 (fun w' => w'.cell? ⟨g, 0, none⟩ = some (.string k.id) ∧ w'.cell? ⟨g, 1, none⟩ = some (.string k.sec) ∧ w'.cell? ⟨g, 2, none⟩ = some (.int .i64 k.sf) ∧ w'.cell? ⟨g, 3, none⟩ = some (.int .i64 k.su) ∧ w'.cell? ⟨g, 4, none⟩ = some (.int .i64 k.af) ∧ w'.cell? ⟨g, 5, none⟩ = some (.int .i64 k.au))
            (first | go_keep | (exact ((YD.out.below hb4).below hb5).cells) | (exact (YD.out.below hb4).cells) | (exact HQ.out))
            (first
              | (go_at_call 41; refine (Calls.mono (HHD.out _ HDX.out HPX.out) ?_); rintro e w4 ⟨rfl, hb4⟩)
              | (go_at_call 42; refine (Calls.mono (HSG.out _ (HDX.out.below hb4) (HPX.out.below hb4)) ?_); rintro e w5 ⟨rfl, hb5⟩)
              | fail)
          have hbd : Below W3.heap.size W3 w5 := ((Below.refl _ _).drew).trans (bthen hb4 hb5)
          have B5 := Lib.hid (bthen B3.out hbd)
          have H5 := Lib.hid (H3.out.below hbd)
          have Y5 := Lib.hid (Y3.out.below hbd)
          clear hb4 hb5 hbd q0 q1 q2 q3 q4 q5 HQ YD HHD HSG HDX HPX B3 H3 Y3
          have KB : Hid (KyBox w5 gk ky0) := Lib.hid (H5.out.get gk _ (by simp))
          have CB : Hid (ClBox (w5.setRow gk (kyA ky0)) gc cl0 p30) := Lib.hid (ClBox.other (H5.out.get gc _ (by simp)) (by omega))
          have CB2 := Lib.hid (CB.out.set (c := cl0) (p := p30))
          have KB2 : Hid (KyBox ((w5.setRow gk (kyA ky0)).setRow gc (clA cl0 p30)) gk ky0) := Lib.hid (KB.out.set.other (by omega))
          have BZ : Hid (Below w.heap.size w ((w5.setRow gk (kyA ky0)).setRow gc (clA cl0 p30))) := Lib.hid (below_setRow (below_setRow B5.out (by omega) _) (by omega) _)
          go_wp2_with (first
            | (refine build_ky rfl _ rfl rfl ?_)
            | (refine build_cl rfl _ rfl rfl ?_)
            | (refine store_ky rfl _ rfl _ _ rfl gk rfl ky0 rfl ky0 KB ?_)
            | (refine store_cl rfl _ rfl _ _ rfl gc rfl cl0 p30 rfl cl0 p30 CB ?_)
            | fail)
          refine bodyPost_ret (v := .tuple #[kyV ky0, clV cl0 p30, .int .i64 17]) (res_kct Tryz.results49 _ _ gk gc ky0 cl0 p30 _ rfl rfl KB2.out CB2.out rfl) rfl ⟨HR.out _, BZ.out⟩
      · have hEb : (E == 0) = false := by simpa using h0
        have HR : Hid (∀ w', RetVer l s x (.returned (.tuple #[kyV ky0, clV cl0 p30, .int .i64 E])) w') := Lib.hid (fun w' => RetVer.bad ((ver_win HT.out HFK.out (by rw [HE.out]; exact h0)).trans HE.out) h0)
        rw [HA.out.1, HA.out.2, if_neg h0]
        have H3 : Hid (Has ((w2.alloc (kyO ky0)).setRow w2.heap.size (kyA ky0)) _) := Lib.hid (H2.out.below (below_ky w2 ky0 ky0))
        have B3 := Lib.hid (bthen B2.out (below_ky w2 ky0 ky0))
        obtain ⟨W3, HW3⟩ : ∃ W, Hid (((w2.alloc (kyO ky0)).setRow w2.heap.size (kyA ky0)) = W) := ⟨_, Lib.hid rfl⟩
        rw [HW3.out] at H3 B3
        clear h0
        go_upto_region 5 with (first
          | (refine alloc_ky rfl _ rfl rfl ?_)
          | (refine store_ky rfl _ rfl _ _ rfl w2.heap.size rfl ky0 rfl ky0 Z2 ?_; rw [HW3.out])
          | fail)
        have KB : Hid (KyBox W3 gk ky0) := Lib.hid (H3.out.get gk _ (by simp))
        have CB : Hid (ClBox (W3.setRow gk (kyA ky0)) gc cl0 p30) := Lib.hid (ClBox.other (H3.out.get gc _ (by simp)) (by omega))
        have CB2 := Lib.hid (CB.out.set (c := cl0) (p := p30))
        have KB2 : Hid (KyBox ((W3.setRow gk (kyA ky0)).setRow gc (clA cl0 p30)) gk ky0) := Lib.hid (KB.out.set.other (by omega))
        have BZ : Hid (Below w.heap.size w ((W3.setRow gk (kyA ky0)).setRow gc (clA cl0 p30))) := Lib.hid (below_setRow (below_setRow B3.out (by omega) _) (by omega) _)
        go_wp2_with (first
          | (refine build_ky rfl _ rfl rfl ?_)
          | (refine build_cl rfl _ rfl rfl ?_)
          | (refine store_ky rfl _ rfl _ _ rfl gk rfl ky0 rfl ky0 KB ?_)
          | (refine store_cl rfl _ rfl _ _ rfl gc rfl cl0 p30 rfl cl0 p30 CB ?_)
          | fail)
        refine bodyPost_ret (v := .tuple #[kyV ky0, clV cl0 p30, .int .i64 E]) (res_kct Tryz.results49 _ _ gk gc ky0 cl0 p30 _ rfl rfl KB2.out CB2.out rfl) rfl ⟨HR.out _, BZ.out⟩
  · have B1 := Lib.hid (bthen B0.out hb1)
    have H1 := Lib.hid (H0.out.below hb1)
    have HR : Hid (∀ w', RetVer l s x (.returned (.tuple #[kyV ky0, clV cl0 p30, .int .i64 4])) w') := Lib.hid (fun w' => RetVer.bad (ver_form hn) (by decide))
    clear hn hb1 H0 B0
    have KB : Hid (KyBox w1 gk ky0) := Lib.hid (H1.out.get gk _ (by simp))
    have CB : Hid (ClBox (w1.setRow gk (kyA ky0)) gc cl0 p30) := Lib.hid (ClBox.other (H1.out.get gc _ (by simp)) (by omega))
    have CB2 := Lib.hid (CB.out.set (c := cl0) (p := p30))
    have KB2 : Hid (KyBox ((w1.setRow gk (kyA ky0)).setRow gc (clA cl0 p30)) gk ky0) := Lib.hid (KB.out.set.other (by omega))
    have BZ : Hid (Below w.heap.size w ((w1.setRow gk (kyA ky0)).setRow gc (clA cl0 p30))) := Lib.hid (below_setRow (below_setRow B1.out (by omega) _) (by omega) _)
    go_wp2_with (first
      | (refine build_ky rfl _ rfl rfl ?_)
      | (refine build_cl rfl _ rfl rfl ?_)
      | (refine store_ky rfl _ rfl _ _ rfl gk rfl ky0 rfl ky0 KB ?_)
      | (refine store_cl rfl _ rfl _ _ rfl gc rfl cl0 p30 rfl cl0 p30 CB ?_)
      | fail)
    refine bodyPost_ret (v := .tuple #[kyV ky0, clV cl0 p30, .int .i64 4]) (res_kct Tryz.results49 _ _ gk gc ky0 cl0 p30 _ rfl rfl KB2.out CB2.out rfl) rfl ⟨HR.out _, BZ.out⟩
end Go.Proofs.YtiiioefjdebggaaGreatDoor

/- token.Verify. -/
namespace Go.Proofs.YtiiioefjdebggaaGreatDoor
open Go.RowKit

/-- A key and claims, each in a new variable. -/
structure Box2 (w : World) (k : Ky) (c : Cl) (q : P3) (W : World) : Prop where
  e1 : (w.alloc (kyO ky0)).heap.size = w.heap.size + 1
  z1 : KyBox ((w.alloc (kyO ky0)).alloc (clO cl0 p30)) w.heap.size ky0
  z2 : ClBox (((w.alloc (kyO ky0)).alloc (clO cl0 p30)).setRow w.heap.size (kyA k)) (w.heap.size + 1) cl0 p30
  e2 : (((w.alloc (kyO ky0)).alloc (clO cl0 p30)).setRow w.heap.size (kyA k)).setRow (w.heap.size + 1) (clA c q) = W
  ky : KyBox W w.heap.size k
  cl : ClBox W (w.heap.size + 1) c q
  b : Below w.heap.size w W
theorem box2 (w : World) (k : Ky) (c : Cl) (q : P3) : ∃ W, Box2 w k c q W := by
  have e1 : (w.alloc (kyO ky0)).heap.size = w.heap.size + 1 := by simp
  have z1 : KyBox ((w.alloc (kyO ky0)).alloc (clO cl0 p30)) w.heap.size ky0 := (KyBox.new w ky0).below ((Below.refl _ _).alloc (Nat.le_refl _) _)
  have y1 := ClBox.new (w.alloc (kyO ky0)) cl0 p30
  rw [e1] at y1
  have z2 : ClBox (((w.alloc (kyO ky0)).alloc (clO cl0 p30)).setRow w.heap.size (kyA k)) (w.heap.size + 1) cl0 p30 := ClBox.other y1 (by omega)
  exact ⟨_, e1, z1, z2, rfl, KyBox.other (KyBox.set z1) (by omega), ClBox.set z2, below_setRow (below_setRow (((Below.refl _ _).alloc (Nat.le_refl _) _).alloc (by simp) _) (Nat.le_refl _) _) (by omega) _⟩
theorem has2 (w : World) (x : Ex) : Has ((w.alloc (exO0 x)).alloc (clO cl0 p30)) [(w.heap.size, exO0 x), (w.heap.size + 1, clO cl0 p30)] ∧ Below w.heap.size w ((w.alloc (exO0 x)).alloc (clO cl0 p30)) := by
  have b1 : Below w.heap.size w (w.alloc (exO0 x)) := (Below.refl _ _).alloc (Nat.le_refl _) _
  have z1 : (w.alloc (exO0 x)).heap.size = w.heap.size + 1 := by simp
  have b2 : Below (w.alloc (exO0 x)).heap.size (w.alloc (exO0 x)) ((w.alloc (exO0 x)).alloc (clO cl0 p30)) := (Below.refl _ _).alloc (Nat.le_refl _) _
  have h1 := ExBox.new w x
  have h2 := ClBox.new (w.alloc (exO0 x)) cl0 p30
  rw [z1] at h2
  exact ⟨(Has.add (l := []) (fun y hy => by simp at hy) h2).add (h1.below b2), bthen b1 b2⟩
/-- Claims and a code. -/
def RetVc (C : Cl) (E : Int) (e : Ending) (w' : World) : Prop := ∃ q, e = .returned (.tuple #[clV C q, .int .i64 E]) ∧ ClAt w' C q ∧ ClIn C q
theorem verC_cases (l : List Ky) (s : ByteArray) (x : Ex) : verC l s x = cl0 ∨ checkE (verC l s x) = 0 := by
  by_cases h : verE l s x = 0
  · obtain ⟨_, _, _, _, c, _, _, _, _, hd, _, _, hc⟩ := ver_zero h
    rw [hc]; exact .inr hd.1
  · exact .inl (ver_err h).2
theorem ClAt.setBlank' {w : World} {c : Cl} {q : P3} (h : ClAt w c q) (hc : c = cl0 ∨ checkE c = 0) {b : Nat} {o : Obj} (hb : w.heap[b]? = some o) (ho : Blank o) (cs : Array Value) : ClAt (w.setRow b cs) c q := by
  rcases hc with rfl | hc
  · exact ⟨Strs.nil_ _ _, Strs.nil_ _ _, Strs.nil_ _ _⟩
  · exact h.setBlank hc hb ho cs
set_option linter.unusedSimpArgs false in
set_option maxHeartbeats 8000000 in
set_option maxRecDepth 100000 in
theorem verify26_any (l : List Ky) (A : Option Addr) (cc : Nat) (s : ByteArray) (x : Ex) (w : World) (hd : DigOk w) (hp : PowOk w) (hk : KeysOk w) (he : ErrsOk w) (hS : KysAt w A l) (hl : l.length ≤ 9223372036854775807) (hs : s.size ≤ 140737488351232)
    (hz : ∀ k ∈ l, wordS k.id = true → k.sec.size ≤ 140737488351232) :
    Calls Tryz.prog 17 #[.slice A l.length cc, .string s, exV x] w fun e w' => RetVc (verC l s x) (verE l s x) e w' ∧ Below w.heap.size w w' := by
  obtain ⟨hh0, hb0⟩ := has2 w x
  have H0 := Lib.hid hh0
  have B0 := Lib.hid hb0
  have HV := Lib.hid (verified_any l A cc s x _ (hd.below hb0) (hp.below hb0) (hk.below hb0) (he.below hb0) (hS.below hb0) hl hs hz)
  have HCC := Lib.hid (verC_cases l s x)
  clear hd hp hk he hS hz hh0 hb0
  obtain ⟨gc, HGC⟩ : ∃ g, Hid (w.heap.size + 1 = g) := ⟨_, Lib.hid rfl⟩
  obtain ⟨W0, HW0⟩ : ∃ W, Hid (((w.alloc (exO0 x)).alloc (clO cl0 p30)) = W) := ⟨_, Lib.hid rfl⟩
  rw [HGC.out] at H0
  rw [HW0.out] at H0 B0 HV
  have hgc : w.heap.size < gc := by have := HGC.out; omega
  have e1 : (w.alloc (exO0 x)).heap.size = gc := by rw [← HGC.out]; simp
  have XX : Hid (ExBox W0 w.heap.size x) := Lib.hid (H0.out.get w.heap.size (exO0 x) (by simp))
  obtain ⟨K, HK⟩ : ∃ k, Hid (verK l s x = k) := ⟨_, Lib.hid rfl⟩
  obtain ⟨C, HC⟩ : ∃ k, Hid (verC l s x = k) := ⟨_, Lib.hid rfl⟩
  obtain ⟨E, HE⟩ : ∃ k, Hid (verE l s x = k) := ⟨_, Lib.hid rfl⟩
  rw [HC.out] at HCC
  rw [HC.out, HE.out]
  go_enter Tryz.func17, Tryz.ntmps17
  go_upto_region 1 with (first
    | (refine box_ex rfl _ rfl _ rfl x rfl ?_)
    | (refine alloc_cl rfl _ rfl rfl ?_; rw [e1, HW0.out])
    | fail)
  clear e1 HW0 HGC
  go_wp2_with (first | (refine load_ex rfl _ rfl _ rfl w.heap.size rfl x XX ?_) | fail)
  refine (Calls.mono HV.out ?_)
  rintro e w1 ⟨⟨q, rfl, hca, hci⟩, hb1⟩
  rw [HC.out] at hca hci
  rw [HK.out, HC.out, HE.out]
  obtain ⟨W2, hbx⟩ := box2 w1 K C q
  have E1 := hbx.e1
  have Z1 := Lib.hid hbx.z1
  have Z2 := Lib.hid hbx.z2
  have E2 := Lib.hid hbx.e2
  have X2 := Lib.hid hbx.cl
  have H2 := Lib.hid ((H0.out.below hb1).below hbx.b)
  have B2 := Lib.hid (bthen B0.out (bthen hb1 hbx.b))
  have D2 := Lib.hid (hca.below hbx.b)
  have CI := Lib.hid hci
  have CB : Hid (ClBox W2 gc cl0 p30) := Lib.hid (H2.out.get gc _ (by simp))
  clear hbx hca hci hb1 H0 B0 HV XX
  go_upto_region 2 with (first
    | (refine alloc_ky rfl _ rfl rfl ?_)
    | (refine alloc_cl rfl _ rfl rfl ?_; rw [E1])
    | (refine store_ky rfl _ rfl _ _ rfl w1.heap.size rfl K rfl ky0 Z1 ?_)
    | (refine store_cl rfl _ rfl _ _ rfl (w1.heap.size + 1) rfl C q rfl cl0 p30 Z2 ?_; rw [E2.out])
    | fail)
  clear Z1 Z2 E1 E2
  go_wp2_with (first
    | (refine load_cl rfl _ rfl _ rfl (w1.heap.size + 1) rfl C q X2 ?_)
    | (refine store_cl rfl _ rfl _ _ rfl gc rfl C q rfl cl0 p30 CB ?_)
    | fail)
  refine bodyPost_ret (v := .tuple #[clV C q, .int .i64 E]) (res_cl Tryz.results17 _ _ gc C q _ rfl CB.out.set rfl) rfl ⟨⟨q, rfl, D2.out.setBlank' HCC.out CB.out blank_cl _, CI.out⟩, below_setRow B2.out (by omega) _⟩
end Go.Proofs.YtiiioefjdebggaaGreatDoor

/- token.Left. -/
namespace Go.Proofs.YtiiioefjdebggaaGreatDoor
open Go.RowKit

/-- An expectation at the nearest instant. -/
def limX (x : Ex) : Ex := ⟨x.kind, x.issuer, x.aud, x.tenant, limT x.now, x.skew⟩
theorem window_lim (f u t k : Int) : windowE f u (limT t) k = windowE f u t k := by rw [windowE, windowE, limT_twice]
theorem allow_lim (c : Cl) (x : Ex) : allowE c (limX x) = allowE c x := by
  simp only [allowE, limX, window_lim]
theorem verE_lim (l : List Ky) (s : ByteArray) (x : Ex) : verE l s (limX x) = verE l s x := by
  have h1 : (limX x).now = limT x.now := rfl
  have h2 : (limX x).skew = x.skew := rfl
  simp only [verE, allow_lim, h1, h2, window_lim]
theorem verK_lim (l : List Ky) (s : ByteArray) (x : Ex) : verK l s (limX x) = verK l s x := by rw [verK, verK, verE_lim]
theorem verC_lim (l : List Ky) (s : ByteArray) (x : Ex) : verC l s (limX x) = verC l s x := by rw [verC, verC, verE_lim]
theorem win_zero {f u t k : Int} (h : windowE f u t k = 0) : f ≤ u ∧ f ≤ limT t + skewT k ∧ limT t - skewT k < u := by
  rw [windowE] at h
  split at h
  · omega
  · split at h
    · omega
    · split at h
      · omega
      · omega
/-- What is known of an accepted token's ends. -/
theorem left_facts {l : List Ky} {s : ByteArray} {x : Ex} (h : verE l s x = 0) : limT x.now - skewT x.skew < (verK l s x).au ∧ limT x.now - skewT x.skew < (verC l s x).exp ∧ 0 ≤ (verC l s x).exp ∧ (verC l s x).exp ≤ 1099511627776 := by
  obtain ⟨_, _, _, k, c, _, _, hw, _, hd, ha, hk, hc⟩ := ver_zero h
  rw [hk, hc]
  have h1 := (win_zero hw).2.2
  have h2 := (win_zero (allow_ok ha).2.2.2.2).2.2
  obtain ⟨_, _, _, _, ht, _⟩ := check_ok hd.1
  rw [timeB] at ht
  simp only [Bool.and_eq_true, validT, decide_eq_true_iff] at ht
  obtain ⟨⟨⟨⟨_, _⟩, t2⟩, _⟩, _⟩ := ht
  exact ⟨h1, h2, t2.1, t2.2⟩
theorem left_ok {l : List Ky} {s : ByteArray} {x : Ex} (h : verE l s x = 0) {u v : Int} (hu : (verK l s x).au = u) (hv : (verC l s x).exp = v) : leftV l s x = min (min u v + skewT x.skew) 1099511627777 - limT x.now ∧ 0 < leftV l s x := by
  have hf := left_facts h
  rw [hu, hv] at hf
  rw [leftV, if_pos h, hu, hv, endT, endT]
  have := limT_in x.now
  have := skewT_in x.skew
  omega
theorem left_no {l : List Ky} {s : ByteArray} {x : Ex} (h : verE l s x ≠ 0) : leftV l s x = 0 := by rw [leftV, if_neg h]
theorem left_deferred (a x r : Nat) (z m z0 : Int) (u : FrameMode) (w : World) (h1 : w.cell? ⟨a, 0, none⟩ = some (.int .i64 z)) (h2 : w.cell? ⟨x, 4, none⟩ = some (.int .i64 m)) (h3 : w.cell? ⟨r, 0, none⟩ = some (.int .i64 z0)) (hf : w.frozen? ⟨r, 0, none⟩ = false) (hm : 0 ≤ m ∧ m ≤ 1099511627776) (hz : -1000000 ≤ z ∧ z ≤ 1099511627777) :
    CallsD Tryz.prog 54 #[.pointer (some ⟨a, 0, none⟩), .pointer (some ⟨x, 0, none⟩), .pointer (some ⟨r, 0, none⟩)] u w fun e u' w' => u' = u ∧ (e = .returned (.tuple #[]) ∧ w' = w.setCell ⟨r, 0, none⟩ (.int .i64 (max 0 (z - m)))) := by
  have hw : IntKind.i64.wrap (z - m) = z - m := by rw [IntKind.wrap_i64]; omega
  by_cases h : 0 < z - m
  · have e1 : max 0 (z - m) = z - m := by omega
    rw [e1]
    go_enter_d Tryz.func54, Tryz.ntmps54
    go_wp2
    go_end0
    exact ⟨rfl, rfl⟩
  · have e1 : max 0 (z - m) = 0 := by omega
    rw [e1]
    go_enter_d Tryz.func54, Tryz.ntmps54
    go_wp2
    go_end0
    exact ⟨rfl, rfl⟩
def intO (z : Int) : Obj := .cells #[.int .i64 z] 3 (0, 0)
theorem left_boxes (w : World) (x : Ex) : Has ((((w.alloc (exO0 x)).setCell ⟨w.heap.size, 4, none⟩ (.int .i64 (min (max x.now 0) 1099511627776))).alloc (.cells #[.int .i64 0] 3)).alloc (.cells #[.int .i64 0] 3)) [(w.heap.size, exO0 (limX x)), (w.heap.size + 1, intO 0), (w.heap.size + 1 + 1, intO 0)] ∧ Below w.heap.size w ((((w.alloc (exO0 x)).setCell ⟨w.heap.size, 4, none⟩ (.int .i64 (min (max x.now 0) 1099511627776))).alloc (.cells #[.int .i64 0] 3)).alloc (.cells #[.int .i64 0] 3)) := by
  have b1 : Below w.heap.size w ((w.alloc (exO0 x)).setCell ⟨w.heap.size, 4, none⟩ (.int .i64 (min (max x.now 0) 1099511627776))) := ((Below.refl _ _).alloc (Nat.le_refl _) _).setCell (Nat.le_refl _) _
  have h1 : ExBox ((w.alloc (exO0 x)).setCell ⟨w.heap.size, 4, none⟩ (.int .i64 (min (max x.now 0) 1099511627776))) w.heap.size (limX x) := (ExBox.new w x).put 4 _ rfl
  have z1 : ((w.alloc (exO0 x)).setCell ⟨w.heap.size, 4, none⟩ (.int .i64 (min (max x.now 0) 1099511627776))).heap.size = w.heap.size + 1 := by simp
  generalize ((w.alloc (exO0 x)).setCell ⟨w.heap.size, 4, none⟩ (.int .i64 (min (max x.now 0) 1099511627776))) = W1 at *
  have b2 : Below W1.heap.size W1 (W1.alloc (.cells #[.int .i64 0] 3)) := (Below.refl _ _).alloc (Nat.le_refl _) _
  have h2 : (W1.alloc (.cells #[.int .i64 0] 3)).heap[W1.heap.size]? = some (intO 0) := heap_alloc_new W1 _
  have z2 : (W1.alloc (.cells #[.int .i64 0] 3)).heap.size = W1.heap.size + 1 := by simp
  generalize (W1.alloc (.cells #[.int .i64 0] 3)) = W2 at *
  have b3 : Below W2.heap.size W2 (W2.alloc (.cells #[.int .i64 0] 3)) := (Below.refl _ _).alloc (Nat.le_refl _) _
  have h3 : (W2.alloc (.cells #[.int .i64 0] 3)).heap[W2.heap.size]? = some (intO 0) := heap_alloc_new W2 _
  rw [z1] at h2 z2
  rw [z2] at h3
  refine ⟨((Has.add (l := []) (fun y hy => by simp at hy) h3).add ((b3.block _ (Array.getElem?_eq_some_iff.1 h2).1).trans h2)).add ((h1.below b2).below b3), bthen b1 (bthen b2 b3)⟩
theorem ExBox.below2 {W : World} {g : Nat} {x : Ex} (h : ExBox W g x) (b : Nat) (v : Value) (hb : g ≠ b) : ExBox (W.setCell ⟨b, 0, none⟩ v) g x := (heap_setCell_other W ⟨b, 0, none⟩ g _ hb).trans h
/-- The cells at the door. -/
theorem left_cells {W : World} {gx ge gr : Nat} {x : Ex} {z0 : Int} (hX : ExBox W gx x) (hZ : W.heap[ge]? = some (intO z0)) (hR : W.heap[gr]? = some (intO 0)) (h1 : ge ≠ gr) (h2 : gx ≠ gr) :
    (W.setCell ⟨gr, 0, none⟩ (.int .i64 0)).cell? ⟨ge, 0, none⟩ = some (.int .i64 z0) ∧ (W.setCell ⟨gr, 0, none⟩ (.int .i64 0)).cell? ⟨gx, 4, none⟩ = some (.int .i64 x.now) ∧ (W.setCell ⟨gr, 0, none⟩ (.int .i64 0)).cell? ⟨gr, 0, none⟩ = some (.int .i64 0) ∧ (W.setCell ⟨gr, 0, none⟩ (.int .i64 0)).frozen? ⟨gr, 0, none⟩ = false := by
  refine ⟨?_, ?_, ?_, ?_⟩
  · rw [World.cell?_setCell_other _ _ _ _ (by intro e; injection e with e _; exact h1 e.symm)]
    exact cell_of_row _ _ 0 _ _ (0, 0) hZ
  · rw [World.cell?_setCell_other _ _ _ _ (by intro e; injection e with e _; exact h2 e.symm)]
    exact hX.cells.1
  · exact World.cell?_setCell_same _ _ _ (cell_of_row _ _ 0 _ _ (0, 0) hR)
  · rw [World.frozen?_setCell]
    exact frozen_of_row _ _ 0 _ _ hR
theorem int_set {W : World} {g : Nat} {z0 z : Int} (h : W.heap[g]? = some (intO z0)) : (W.setCell ⟨g, 0, none⟩ (.int .i64 z)).heap[g]? = some (intO z) := by
  rw [heap_setCell_same W g 0 _ _ _ h]; rfl
set_option linter.unusedSimpArgs false in
set_option maxHeartbeats 16000000 in
set_option maxRecDepth 100000 in
theorem left26_any (l : List Ky) (A : Option Addr) (cc : Nat) (s : ByteArray) (x : Ex) (w : World) (hd : DigOk w) (hp : PowOk w) (hk : KeysOk w) (he : ErrsOk w) (hS : KysAt w A l) (hl : l.length ≤ 9223372036854775807) (hs : s.size ≤ 140737488351232)
    (hz : ∀ k ∈ l, wordS k.id = true → k.sec.size ≤ 140737488351232) :
    Calls Tryz.prog 20 #[.slice A l.length cc, .string s, exV x] w fun e w' => e = .returned (.int .i64 (leftV l s x)) ∧ Below w.heap.size w w' := by
  have hmf : ∀ (fn : Fn) (first cap : Array Value) (w : World), (Instr.makeFunc fn first cap).run Tryz.prog w = .ok (.func fn first cap) w := fun _ _ _ _ => rfl
  have X1 : ExBox ((w.alloc (exO0 x)).alloc (.cells #[.int .i64 0] 3)) w.heap.size x := (ExBox.new w x).below ((Below.refl _ _).alloc (Nat.le_refl _) _)
  obtain ⟨x4, x5⟩ := X1.cells
  have f4 : ((w.alloc (exO0 x)).alloc (.cells #[.int .i64 0] 3)).frozen? ⟨w.heap.size, 4, none⟩ = false := frozen_of_row _ w.heap.size 4 _ _ X1
  clear X1
  obtain ⟨hh0, hb0⟩ := left_boxes w x
  have H0 := Lib.hid hh0
  have B0 := Lib.hid hb0
  obtain ⟨W0, HW0⟩ : ∃ W, Hid (((((w.alloc (exO0 x)).setCell ⟨w.heap.size, 4, none⟩ (.int .i64 (min (max x.now 0) 1099511627776))).alloc (.cells #[.int .i64 0] 3)).alloc (.cells #[.int .i64 0] 3)) = W) := ⟨_, Lib.hid rfl⟩
  rw [HW0.out] at H0 B0
  have HV := Lib.hid (verified_any l A cc s (limX x) _ (hd.below B0.out) (hp.below B0.out) (hk.below B0.out) (he.below B0.out) (hS.below B0.out) hl hs hz)
  have HL0 := Lib.hid (@left_no l s x)
  have HL1 := Lib.hid (fun u v h => @left_ok l s x h u v)
  have HLF := Lib.hid (@left_facts l s x)
  have HMI := Lib.hid (limT_in x.now)
  have HSI := Lib.hid (skewT_in x.skew)
  clear hd hp hk he hS hz hh0 hb0
  obtain ⟨L, HL⟩ : ∃ k, Hid (leftV l s x = k) := ⟨_, Lib.hid rfl⟩
  obtain ⟨K, HK⟩ : ∃ k, Hid (verK l s x = k) := ⟨_, Lib.hid rfl⟩
  obtain ⟨C, HC⟩ : ∃ k, Hid (verC l s x = k) := ⟨_, Lib.hid rfl⟩
  obtain ⟨E, HE⟩ : ∃ k, Hid (verE l s x = k) := ⟨_, Lib.hid rfl⟩
  rw [HL.out, HE.out] at HL0
  rw [HL.out, HE.out, HK.out, HC.out] at HL1
  rw [HE.out, HK.out, HC.out] at HLF
  rw [HL.out]
  go_enter_defers Tryz.func20, Tryz.ntmps20
  go_upto_region 1 with (first | (refine box_ex rfl _ rfl _ rfl x rfl ?_) | fail)
  go_upto_region 4 with fail
  rw [HW0.out]
  clear x4 x5 f4 HW0
  have XX : Hid (ExBox W0 w.heap.size (limX x)) := Lib.hid (H0.out.get w.heap.size (exO0 (limX x)) (by simp))
  go_wp2_with (first | (refine load_ex rfl _ rfl _ rfl w.heap.size rfl (limX x) XX ?_) | fail)
  refine (Calls.mono HV.out ?_)
  rintro e w1 ⟨⟨q, rfl, hca, hci⟩, hb1⟩
  rw [verK_lim, verC_lim, verE_lim, HK.out, HC.out, HE.out]
  clear hca hci
  obtain ⟨W2, hbx⟩ := box2 w1 K C q
  have E1 := hbx.e1
  have Z1 := Lib.hid hbx.z1
  have Z2 := Lib.hid hbx.z2
  have E2 := Lib.hid hbx.e2
  have X2 := Lib.hid hbx.cl
  have Y2 := Lib.hid hbx.ky
  have H2 := Lib.hid ((H0.out.below hb1).below hbx.b)
  have B2 := Lib.hid (bthen B0.out (bthen hb1 hbx.b))
  clear hbx hb1 H0 B0 HV XX
  go_upto_region 5 with (first
    | (refine alloc_ky rfl _ rfl rfl ?_)
    | (refine alloc_cl rfl _ rfl rfl ?_; rw [E1])
    | (refine store_ky rfl _ rfl _ _ rfl w1.heap.size rfl K rfl ky0 Z1 ?_)
    | (refine store_cl rfl _ rfl _ _ rfl (w1.heap.size + 1) rfl C q rfl cl0 p30 Z2 ?_; rw [E2.out])
    | fail)
  clear Z1 Z2 E1 E2
  have hX : ExBox W2 w.heap.size (limX x) := H2.out.get w.heap.size (exO0 (limX x)) (by simp)
  have hR : W2.heap[w.heap.size + 1]? = some (intO 0) := H2.out.get (w.heap.size + 1) (intO 0) (by simp)
  have hZ : W2.heap[w.heap.size + 1 + 1]? = some (intO 0) := H2.out.get (w.heap.size + 1 + 1) (intO 0) (by simp)
  obtain ⟨x4, x5⟩ := hX.cells
  have r0 : W2.cell? ⟨w.heap.size + 1, 0, none⟩ = some (.int .i64 0) := cell_of_row _ _ 0 _ _ (0, 0) hR
  have z0 : W2.cell? ⟨w.heap.size + 1 + 1, 0, none⟩ = some (.int .i64 0) := cell_of_row _ _ 0 _ _ (0, 0) hZ
  have rf : W2.frozen? ⟨w.heap.size + 1, 0, none⟩ = false := frozen_of_row _ _ 0 _ _ hR
  have zf : W2.frozen? ⟨w.heap.size + 1 + 1, 0, none⟩ = false := frozen_of_row _ _ 0 _ _ hZ
  have c13 := X2.out.cells.2.2.2.2.2.2.2.2.2.2.2.2.2.1
  have k5 := Y2.out.cells.2.2.2.2.2
  by_cases h0 : E = 0
  · have hEb : (E == 0) = true := by rw [h0]; rfl
    have HF := Lib.hid (HLF.out h0)
    have HLL := Lib.hid (HL1.out _ _ h0 rfl rfl)
    subst h0
    obtain ⟨hf1, hf2, hf3, hf4⟩ := HF.out
    have hmm := HMI.out
    have hsi := HSI.out
    have hsk : min (max (limX x).skew 0) 600 = skewT x.skew := rfl
    go_wp2_with fail
    · obtain ⟨d1, d2, d3, d4⟩ := left_cells (gr := w.heap.size + 1) (ExBox.below2 hX (w.heap.size + 1 + 1) (.int .i64 (min (C.exp + skewT x.skew) 1099511627777)) (by omega)) (int_set (z := min (C.exp + skewT x.skew) 1099511627777) hZ) ((heap_setCell_other W2 ⟨w.heap.size + 1 + 1, 0, none⟩ _ _ (by show w.heap.size + 1 ≠ w.heap.size + 1 + 1; omega)).trans hR) (by omega) (by omega)
      refine leaves_cons (f := 54) (args := #[.pointer (some ⟨w.heap.size + 1 + 1, 0, none⟩), .pointer (some ⟨w.heap.size, 0, none⟩), .pointer (some ⟨w.heap.size + 1, 0, none⟩)]) (by simp) (by simp [go_sem]) ?_
      have hLL : max 0 (min (C.exp + skewT x.skew) 1099511627777 - limT x.now) = L := by have := HLL.out; omega
      refine (left_deferred (w.heap.size + 1 + 1) w.heap.size (w.heap.size + 1) (min (C.exp + skewT x.skew) 1099511627777) (limT x.now) 0 .returning _ d1 d2 d3 d4 HMI.out (by omega)).mono ?_
      rintro e u' w'' ⟨rfl, rfl, rfl⟩
      rw [hLL]
      have d5 := World.cell?_setCell_same _ _ (.int .i64 L) d3
      simp [Leaves, settle, results, Tryz.results20, go_sem]
      rw [d5]
      exact ⟨_, rfl, rfl, ((B2.out.setCell (by show w.heap.size ≤ w.heap.size + 1 + 1; omega) _).setCell (by show w.heap.size ≤ w.heap.size + 1; omega) _).setCell (by show w.heap.size ≤ w.heap.size + 1; omega) _⟩
    · obtain ⟨d1, d2, d3, d4⟩ := left_cells (gr := w.heap.size + 1) (ExBox.below2 hX (w.heap.size + 1 + 1) (.int .i64 (min (K.au + skewT x.skew) 1099511627777)) (by omega)) (int_set (z := min (K.au + skewT x.skew) 1099511627777) hZ) ((heap_setCell_other W2 ⟨w.heap.size + 1 + 1, 0, none⟩ _ _ (by show w.heap.size + 1 ≠ w.heap.size + 1 + 1; omega)).trans hR) (by omega) (by omega)
      refine leaves_cons (f := 54) (args := #[.pointer (some ⟨w.heap.size + 1 + 1, 0, none⟩), .pointer (some ⟨w.heap.size, 0, none⟩), .pointer (some ⟨w.heap.size + 1, 0, none⟩)]) (by simp) (by simp [go_sem]) ?_
      have hLL : max 0 (min (K.au + skewT x.skew) 1099511627777 - limT x.now) = L := by have := HLL.out; omega
      refine (left_deferred (w.heap.size + 1 + 1) w.heap.size (w.heap.size + 1) (min (K.au + skewT x.skew) 1099511627777) (limT x.now) 0 .returning _ d1 d2 d3 d4 HMI.out (by omega)).mono ?_
      rintro e u' w'' ⟨rfl, rfl, rfl⟩
      rw [hLL]
      have d5 := World.cell?_setCell_same _ _ (.int .i64 L) d3
      simp [Leaves, settle, results, Tryz.results20, go_sem]
      rw [d5]
      exact ⟨_, rfl, rfl, ((B2.out.setCell (by show w.heap.size ≤ w.heap.size + 1 + 1; omega) _).setCell (by show w.heap.size ≤ w.heap.size + 1; omega) _).setCell (by show w.heap.size ≤ w.heap.size + 1; omega) _⟩
  · have hEb : (E == 0) = false := by simpa using h0
    have HLL := Lib.hid (HL0.out h0)
    clear h0
    obtain ⟨d1, d2, d3, d4⟩ := left_cells hX hZ hR (by omega) (by omega)
    go_wp2_with fail
    refine leaves_cons (f := 54) (args := #[.pointer (some ⟨w.heap.size + 1 + 1, 0, none⟩), .pointer (some ⟨w.heap.size, 0, none⟩), .pointer (some ⟨w.heap.size + 1, 0, none⟩)]) (by simp) (by simp [go_sem]) ?_
    refine (left_deferred (w.heap.size + 1 + 1) w.heap.size (w.heap.size + 1) 0 (limT x.now) 0 .returning _ d1 d2 d3 d4 HMI.out (by omega)).mono ?_
    rintro e u' w'' ⟨rfl, rfl, rfl⟩
    have e0 : max 0 (0 - limT x.now) = 0 := by have := HMI.out.1; omega
    rw [e0]
    have d5 := World.cell?_setCell_same _ _ (.int .i64 0) d3
    simp [Leaves, settle, results, Tryz.results20, go_sem]
    rw [d5]
    exact ⟨_, rfl, by rw [HLL.out], (B2.out.setCell (by show w.heap.size ≤ w.heap.size + 1; omega) _).setCell (by show w.heap.size ≤ w.heap.size + 1; omega) _⟩
end Go.Proofs.YtiiioefjdebggaaGreatDoor

/- token.Sign and its reference. -/
namespace Go.Proofs.YtiiioefjdebggaaGreatDoor
open Go.RowKit

theorem ret_si0 {E G : Int} (h : G = E) {S : ByteArray} (hs : S = ⟨#[]⟩) : Ending.returned (.tuple #[.string ⟨#[]⟩, .int .i64 E]) = .returned (.tuple #[.string S, .int .i64 G]) := by rw [h, hs]
theorem sign_bad {l : List Ky} {c : Cl} {t : Int} {E : Int} (h : signE l c t = E) (h0 : E ≠ 0) : signE l c t = E ∧ signV l c t = ⟨#[]⟩ := ⟨h, by rw [signV, if_neg (by rw [h]; exact h0)]; rfl⟩
theorem sign_keys {l : List Ky} {c : Cl} {t : Int} (h : keysE l ≠ 0) : signE l c t = keysE l ∧ signV l c t = ⟨#[]⟩ := sign_bad (by rw [signE, if_neg h]) h
theorem sign_check {l : List Ky} {c : Cl} {t : Int} (h : keysE l = 0) (h1 : checkE c ≠ 0) : signE l c t = checkE c ∧ signV l c t = ⟨#[]⟩ := sign_bad (by rw [signE, if_pos h, if_neg h1]) h1
theorem sign_none {l : List Ky} {c : Cl} {t : Int} (h : keysE l = 0) (h1 : checkE c = 0) (h2 : sigO l t = none) : signE l c t = 26 ∧ signV l c t = ⟨#[]⟩ := sign_bad (by rw [signE, if_pos h, if_pos h1]; simp only [h2]) (by decide)
theorem sign_enc {l : List Ky} {c : Cl} {t : Int} {k : Ky} (h : keysE l = 0) (h1 : checkE c = 0) (h2 : sigO l t = some k) (h3 : encE c ≠ 0) : signE l c t = encE c ∧ signV l c t = ⟨#[]⟩ := sign_bad (by rw [signE, if_pos h, if_pos h1]; simp only [h2]) h3
theorem sign_ok {l : List Ky} {c : Cl} {t : Int} {k : Ky} (h : keysE l = 0) (h1 : checkE c = 0) (h2 : sigO l t = some k) (h3 : encE c = 0) : signE l c t = 0 ∧ signV l c t = headS k.id (encV c) ++ ⟨#[46]⟩ ++ sgnS k.sec (headS k.id (encV c)) := by
  have e : signE l c t = 0 := by rw [signE, if_pos h, if_pos h1]; simp only [h2]; exact h3
  refine ⟨e, ?_⟩
  rw [signV, if_pos e]; simp only [h2]; rfl
/-- The key that signs is in order. -/
theorem sigO_key {l : List Ky} {t : Int} {k : Ky} (h : sigO l t = some k) : keysE l = 0 ∧ k ∈ l ∧ wordS k.id = true ∧ k.id.size ≤ 64 ∧ k.sec.size ≤ 256 := by
  rw [sigO] at h
  split at h
  · rename_i h0
    have hm := sigF_mem t l k h
    obtain ⟨j, hj, rfl⟩ := List.getElem_of_mem hm
    obtain ⟨h1, h2, _, _⟩ := kyE_zero ((keysE_zero h0).2 j hj)
    refine ⟨h0, hm, h1, ?_, ?_⟩
    · rw [wordS, Bool.and_eq_true, decide_eq_true_iff] at h1; exact h1.1.2
    · rw [cleanS, Bool.and_eq_true, Bool.and_eq_true, Bool.and_eq_true, decide_eq_true_iff] at h2; exact h2.1.1.1.2
  · cases h
theorem enc_len {c : Cl} (h : encE c = 0) : (encV c).size ≤ 4096 := by
  obtain ⟨_, h2, h3⟩ := encE_zero h
  rw [h3]; exact h2
set_option linter.unusedSimpArgs false in
set_option maxHeartbeats 8000000 in
set_option maxRecDepth 100000 in
theorem sign26_any (l : List Ky) (A : Option Addr) (cc : Nat) (c : Cl) (p : P3) (t : Int) (w : World) (hd : DigOk w) (hp : PowOk w) (hk : KeysOk w) (hS : KysAt w A l) (hlc : l.length ≤ cc) (hl : l.length ≤ 9223372036854775807) (hin : ∀ x ∈ l, KyIn x) (hc : ClAt w c p) (ic : ClIn c p) :
    Calls Tryz.prog 15 #[.slice A l.length cc, clV c p, .int .i64 t] w fun e w' => e = .returned (.tuple #[.string (signV l c t), .int .i64 (signE l c t)]) ∧ Below w.heap.size w w' := by
  have B1 : Hid (Below w.heap.size w (w.alloc (clO c p))) := Lib.hid ((Below.refl _ _).alloc (Nat.le_refl _) _)
  have X1 : Hid (ClBox (w.alloc (clO c p)) w.heap.size c p) := Lib.hid (ClBox.new w c p)
  have HK := Lib.hid (kcheck_any l A cc _ (hS.below B1.out) hlc hl hin)
  have HDD := Lib.hid hd
  have HPP := Lib.hid hp
  have HKK := Lib.hid hk
  have HS := Lib.hid hS
  have HI := Lib.hid hin
  have HC := Lib.hid hc
  have IC := Lib.hid ic
  have S1 := Lib.hid (@sign_keys l c t)
  have S2 := Lib.hid (@sign_check l c t)
  have S3 := Lib.hid (@sign_none l c t)
  have S4 := Lib.hid (fun k => @sign_enc l c t k)
  have S5 := Lib.hid (fun k => @sign_ok l c t k)
  have SK := Lib.hid (fun k => @sigO_key l t k)
  have SL := Lib.hid (@enc_len c)
  obtain ⟨E, HE⟩ : ∃ E, Hid (keysE l = E) := ⟨_, Lib.hid rfl⟩
  obtain ⟨F, HF⟩ : ∃ E, Hid (checkE c = E) := ⟨_, Lib.hid rfl⟩
  obtain ⟨G, HG⟩ : ∃ E, Hid (encE c = E) := ⟨_, Lib.hid rfl⟩
  obtain ⟨O, HO⟩ : ∃ E, Hid (sigO l t = E) := ⟨_, Lib.hid rfl⟩
  obtain ⟨V, HV⟩ : ∃ E, Hid (encV c = E) := ⟨_, Lib.hid rfl⟩
  rw [HE.out] at HK S1 S2 S3 S4 S5
  rw [HF.out] at S2 S3 S4 S5
  rw [HG.out] at S4 S5 SL
  rw [HO.out] at S3 S4 S5 SK
  rw [HV.out] at S5 SL
  clear hd hp hk hS hin hc ic
  go_enter Tryz.func15, Tryz.ntmps15
  go_upto_region 1 with (first | (refine box_cl rfl _ rfl _ rfl c p rfl ?_) | fail)
  go_wp2_with fail
  refine (Calls.mono HK.out ?_)
  rintro e w2 ⟨rfl, hb2⟩
  have B2 := Lib.hid (bthen B1.out hb2)
  have X2 := Lib.hid (X1.out.below hb2)
  clear hb2 HK X1 B1
  by_cases h0 : E = 0
  · have hEb : (E == 0) = true := by rw [h0]; rfl
    have T2 := Lib.hid (S2.out h0)
    have T3 := Lib.hid (S3.out h0)
    have T4 := Lib.hid (fun k => S4.out k h0)
    have T5 := Lib.hid (fun k => S5.out k h0)
    clear S1 S2 S3 S4 S5
    subst h0
    go_wp2_with (first | (refine load_cl rfl _ rfl _ rfl w.heap.size rfl c p X2 ?_) | fail)
    refine (check_any c p _ IC.out (HC.out.below B2.out)).mono ?_
    rintro e w3 ⟨rfl, hb3⟩
    have B3 := Lib.hid (bthen B2.out hb3)
    have X3 := Lib.hid (X2.out.below hb3)
    clear hb3 B2 X2
    rw [HF.out]
    by_cases h1 : F = 0
    · have hFb : (F == 0) = true := by rw [h1]; rfl
      have U3 := Lib.hid (T3.out h1)
      have U4 := Lib.hid (fun k => T4.out k h1)
      have U5 := Lib.hid (fun k => T5.out k h1)
      clear T2 T3 T4 T5
      subst h1
      go_wp2_with fail
      refine (signing_any l A cc t _ (HS.out.below B3.out) hlc hl HI.out).mono ?_
      rintro e w4 ⟨rfl, hb4⟩
      have B4 := Lib.hid (bthen B3.out hb4)
      have X4 := Lib.hid (X3.out.below hb4)
      clear hb4 B3 X3
      rw [HO.out, sigV]
      have Z4 : Hid (KyBox (w4.alloc (kyO ky0)) w4.heap.size ky0) := Lib.hid (KyBox.new _ _)
      cases O with
      | none =>
        have HR := Lib.hid (U3.out rfl)
        rw [Option.getD_none, Option.isSome_none]
        have Y5 : Hid (KyBox ((w4.alloc (kyO ky0)).setRow w4.heap.size (kyA ky0)) w4.heap.size ky0) := Lib.hid Z4.out.set
        have B5 : Hid (Below w.heap.size w ((w4.alloc (kyO ky0)).setRow w4.heap.size (kyA ky0))) := Lib.hid (bthen B4.out (below_ky _ _ _))
        have X5 : Hid (ClBox ((w4.alloc (kyO ky0)).setRow w4.heap.size (kyA ky0)) w.heap.size c p) := Lib.hid (X4.out.below (below_ky _ _ _))
        obtain ⟨g, HGG⟩ : ∃ g, Hid (w4.heap.size = g) := ⟨_, Lib.hid rfl⟩
        obtain ⟨W5, HW5⟩ : ∃ W, Hid (((w4.alloc (kyO ky0)).setRow w4.heap.size (kyA ky0)) = W) := ⟨_, Lib.hid rfl⟩
        rw [HW5.out, HGG.out] at Y5
        rw [HW5.out] at B5 X5
        go_wp2_with (first
          | (refine alloc_ky rfl _ rfl rfl ?_)
          | (refine store_ky rfl _ rfl _ _ rfl w4.heap.size rfl ky0 rfl ky0 Z4 ?_; rw [HW5.out, HGG.out])
          | (refine load_cl rfl _ rfl _ rfl w.heap.size rfl c p X5 ?_)
          | fail)
        go_ret2
        exact ⟨ret_si0 HR.out.1 HR.out.2, B5.out⟩
      | some k =>
        rw [Option.getD_some, Option.isSome_some]
        obtain ⟨_, _, _, hk1, hk2⟩ := SK.out k rfl
        have Y5 : Hid (KyBox ((w4.alloc (kyO ky0)).setRow w4.heap.size (kyA k)) w4.heap.size k) := Lib.hid Z4.out.set
        have B5 : Hid (Below w.heap.size w ((w4.alloc (kyO ky0)).setRow w4.heap.size (kyA k))) := Lib.hid (bthen B4.out (below_ky _ _ _))
        have X5 : Hid (ClBox ((w4.alloc (kyO ky0)).setRow w4.heap.size (kyA k)) w.heap.size c p) := Lib.hid (X4.out.below (below_ky _ _ _))
        obtain ⟨g, HGG⟩ : ∃ g, Hid (w4.heap.size = g) := ⟨_, Lib.hid rfl⟩
        obtain ⟨W5, HW5⟩ : ∃ W, Hid (((w4.alloc (kyO ky0)).setRow w4.heap.size (kyA k)) = W) := ⟨_, Lib.hid rfl⟩
        rw [HW5.out, HGG.out] at Y5
        rw [HW5.out] at B5 X5
        go_wp2_with (first
          | (refine alloc_ky rfl _ rfl rfl ?_)
          | (refine store_ky rfl _ rfl _ _ rfl w4.heap.size rfl k rfl ky0 Z4 ?_; rw [HW5.out, HGG.out])
          | (refine load_cl rfl _ rfl _ rfl w.heap.size rfl c p X5 ?_)
          | fail)
        refine (encode_any c p _ IC.out (HC.out.below B5.out) (HKK.out.below B5.out) (HPP.out.below B5.out)).mono ?_
        rintro e w6 ⟨rfl, hb6⟩
        have B6 := Lib.hid (bthen B5.out hb6)
        have Y6 := Lib.hid (Y5.out.below hb6)
        clear hb6 B5 Y5
        rw [HG.out, HV.out]
        by_cases h2 : G = 0
        · have hGb : (G == 0) = true := by rw [h2]; rfl
          have HR := Lib.hid (U5.out k rfl h2)
          have hvz := SL.out h2
          subst h2
          obtain ⟨q0, q1, q2, q3, q4, q5⟩ := Y6.out.cells
          have hhz := headS_size k.id V
          have hsz := sgnS_size k.sec (headS k.id V)
          go_wp2_with fail
          refine (head_any k.id V _ (by omega) (by omega)).mono ?_
          rintro e w7 ⟨rfl, hb7⟩
          have B7 := Lib.hid (bthen B6.out hb7)
          have Y7 := Lib.hid (Y6.out.below hb7)
          clear hb7 B6 Y6
          obtain ⟨H, HH⟩ : ∃ h, Hid (headS k.id V = h) := ⟨_, Lib.hid rfl⟩
          obtain ⟨S, HSS⟩ : ∃ h, Hid (sgnS k.sec (headS k.id V) = h) := ⟨_, Lib.hid rfl⟩
          rw [HSS.out] at HR hsz
          rw [HH.out] at HR hhz HSS
          rw [HH.out]
          have h1z : (H ++ ⟨#[46]⟩).size = H.size + 1 := by rw [ByteArray.size_append]; rfl
          clear q0 q1 q2 q3 q4 q5
          go_wp2_with (first | (refine load_ky rfl _ rfl _ rfl g rfl k Y7 ?_) | fail)
          refine (signature_any k H _ (HDD.out.below B7.out) (HPP.out.below B7.out) (by omega) (by omega)).mono ?_
          rintro e w8 ⟨rfl, hb8⟩
          have B8 := Lib.hid (bthen B7.out hb8)
          clear hb8 B7
          rw [HSS.out]
          go_wp2_with fail
          go_ret2
          exact ⟨ret_si HR.out.2.symm HR.out.1.symm, B8.out⟩
        · have hGb : (G == 0) = false := by simpa using h2
          have HR := Lib.hid (U4.out k rfl h2)
          clear h2
          go_wp2_with fail
          go_ret2
          exact ⟨ret_si0 HR.out.1 HR.out.2, B6.out⟩
    · have hFb : (F == 0) = false := by simpa using h1
      have HR := Lib.hid (T2.out h1)
      clear h1
      go_wp2_with fail
      go_ret2
      exact ⟨ret_si0 HR.out.1 HR.out.2, B3.out⟩
  · have hEb : (E == 0) = false := by simpa using h0
    have HR := Lib.hid (S1.out h0)
    clear h0
    go_wp2_with fail
    go_ret2
    exact ⟨ret_si0 HR.out.1 HR.out.2, B2.out⟩
end Go.Proofs.YtiiioefjdebggaaGreatDoor

/- identityref26.Sign. -/
namespace Go.Proofs.YtiiioefjdebggaaGreatDoor
open Go.RowKit

set_option linter.unusedSimpArgs false in
set_option maxHeartbeats 8000000 in
set_option maxRecDepth 100000 in
theorem rsign26_any (l : List Ky) (A : Option Addr) (cc : Nat) (c : Cl) (p : P3) (t : Int) (w : World) (hd : DigOk w) (hp : PowOk w) (hk : KeysOk w) (hS : KysAt w A l) (hl : l.length ≤ 9223372036854775807) (hin : ∀ x ∈ l, KyIn x) (hc : ClAt w c p) (ic : ClIn c p) :
    Calls Tryz.prog 16 #[.slice A l.length cc, clV c p, .int .i64 t] w fun e w' => e = .returned (.tuple #[.string (signV l c t), .int .i64 (signE l c t)]) ∧ Below w.heap.size w w' := by
  have B1 : Hid (Below w.heap.size w (w.alloc (clO c p))) := Lib.hid ((Below.refl _ _).alloc (Nat.le_refl _) _)
  have X1 : Hid (ClBox (w.alloc (clO c p)) w.heap.size c p) := Lib.hid (ClBox.new w c p)
  have HK := Lib.hid (rkcheck_any l A cc _ (hS.below B1.out) hl hin)
  have HDD := Lib.hid hd
  have HPP := Lib.hid hp
  have HKK := Lib.hid hk
  have HS := Lib.hid hS
  have HI := Lib.hid hin
  have HC := Lib.hid hc
  have IC := Lib.hid ic
  have S1 := Lib.hid (@sign_keys l c t)
  have S2 := Lib.hid (@sign_check l c t)
  have S3 := Lib.hid (@sign_none l c t)
  have S4 := Lib.hid (fun k => @sign_enc l c t k)
  have S5 := Lib.hid (fun k => @sign_ok l c t k)
  have SK := Lib.hid (fun k => @sigO_key l t k)
  have SL := Lib.hid (@enc_len c)
  obtain ⟨E, HE⟩ : ∃ E, Hid (keysE l = E) := ⟨_, Lib.hid rfl⟩
  obtain ⟨F, HF⟩ : ∃ E, Hid (checkE c = E) := ⟨_, Lib.hid rfl⟩
  obtain ⟨G, HG⟩ : ∃ E, Hid (encE c = E) := ⟨_, Lib.hid rfl⟩
  obtain ⟨O, HO⟩ : ∃ E, Hid (sigO l t = E) := ⟨_, Lib.hid rfl⟩
  obtain ⟨V, HV⟩ : ∃ E, Hid (encV c = E) := ⟨_, Lib.hid rfl⟩
  rw [HE.out] at HK S1 S2 S3 S4 S5
  rw [HF.out] at S2 S3 S4 S5
  rw [HG.out] at S4 S5 SL
  rw [HO.out] at S3 S4 S5 SK
  rw [HV.out] at S5 SL
  clear hd hp hk hS hin hc ic
  go_enter Tryz.func16, Tryz.ntmps16
  go_upto_region 1 with (first | (refine box_cl rfl _ rfl _ rfl c p rfl ?_) | fail)
  go_wp2_with fail
  refine (Calls.mono HK.out ?_)
  rintro e w2 ⟨rfl, hb2⟩
  have B2 := Lib.hid (bthen B1.out hb2)
  have X2 := Lib.hid (X1.out.below hb2)
  clear hb2 HK X1 B1
  by_cases h0 : E = 0
  · have hEb : (E == 0) = true := by rw [h0]; rfl
    have T2 := Lib.hid (S2.out h0)
    have T3 := Lib.hid (S3.out h0)
    have T4 := Lib.hid (fun k => S4.out k h0)
    have T5 := Lib.hid (fun k => S5.out k h0)
    clear S1 S2 S3 S4 S5
    subst h0
    go_wp2_with (first | (refine load_cl rfl _ rfl _ rfl w.heap.size rfl c p X2 ?_) | fail)
    refine (rencode_any c p _ IC.out (HC.out.below B2.out)).mono ?_
    rintro e w3 ⟨rfl, hb3⟩
    have B3 := Lib.hid (bthen B2.out hb3)
    have X3 := Lib.hid (X2.out.below hb3)
    clear hb3 B2 X2
    rw [HG.out, HV.out]
    go_wp2_with (first | (refine load_cl rfl _ rfl _ rfl w.heap.size rfl c p X3 ?_) | fail)
    refine (rcheck_any c p _ IC.out (HC.out.below B3.out)).mono ?_
    rintro e w4 ⟨rfl, hb4⟩
    have B4 := Lib.hid (bthen B3.out hb4)
    clear hb4 B3
    rw [HF.out]
    by_cases h1 : F = 0
    · have hFb : (F == 0) = true := by rw [h1]; rfl
      have U3 := Lib.hid (T3.out h1)
      have U4 := Lib.hid (fun k => T4.out k h1)
      have U5 := Lib.hid (fun k => T5.out k h1)
      clear T2 T3 T4 T5
      subst h1
      go_wp2_with fail
      refine (rsigning_any l A cc t _ (HS.out.below B4.out) hl HI.out).mono ?_
      rintro e w5 ⟨rfl, hb5⟩
      have B5 := Lib.hid (bthen B4.out hb5)
      clear hb5 B4
      rw [HO.out, sigV]
      have Z5 : Hid (KyBox (w5.alloc (kyO ky0)) w5.heap.size ky0) := Lib.hid (KyBox.new _ _)
      cases O with
      | none =>
        have HR := Lib.hid (U3.out rfl)
        rw [Option.getD_none, Option.isSome_none]
        have Y6 : Hid (KyBox ((w5.alloc (kyO ky0)).setRow w5.heap.size (kyA ky0)) w5.heap.size ky0) := Lib.hid Z5.out.set
        have B6 : Hid (Below w.heap.size w ((w5.alloc (kyO ky0)).setRow w5.heap.size (kyA ky0))) := Lib.hid (bthen B5.out (below_ky _ _ _))
        obtain ⟨g, HGG⟩ : ∃ g, Hid (w5.heap.size = g) := ⟨_, Lib.hid rfl⟩
        obtain ⟨W6, HW6⟩ : ∃ W, Hid (((w5.alloc (kyO ky0)).setRow w5.heap.size (kyA ky0)) = W) := ⟨_, Lib.hid rfl⟩
        rw [HW6.out, HGG.out] at Y6
        rw [HW6.out] at B6
        go_wp2_with (first
          | (refine alloc_ky rfl _ rfl rfl ?_)
          | (refine store_ky rfl _ rfl _ _ rfl w5.heap.size rfl ky0 rfl ky0 Z5 ?_; rw [HW6.out, HGG.out])
          | fail)
        go_ret2
        exact ⟨ret_si0 HR.out.1 HR.out.2, B6.out⟩
      | some k =>
        rw [Option.getD_some, Option.isSome_some]
        obtain ⟨_, _, _, hk1, hk2⟩ := SK.out k rfl
        by_cases h2 : G = 0
        · have hGb : (G == 0) = true := by rw [h2]; rfl
          have HR := Lib.hid (U5.out k rfl h2)
          have hvz := SL.out h2
          subst h2
          have Y6 : Hid (KyBox ((w5.alloc (kyO ky0)).setRow w5.heap.size (kyA k)) w5.heap.size k) := Lib.hid Z5.out.set
          have B6 : Hid (Below w.heap.size w ((w5.alloc (kyO ky0)).setRow w5.heap.size (kyA k))) := Lib.hid (bthen B5.out (below_ky _ _ _))
          obtain ⟨g, HGG⟩ : ∃ g, Hid (w5.heap.size = g) := ⟨_, Lib.hid rfl⟩
          obtain ⟨W6, HW6⟩ : ∃ W, Hid (((w5.alloc (kyO ky0)).setRow w5.heap.size (kyA k)) = W) := ⟨_, Lib.hid rfl⟩
          rw [HW6.out, HGG.out] at Y6
          rw [HW6.out] at B6
          go_wp2_with (first
            | (refine alloc_ky rfl _ rfl rfl ?_)
            | (refine store_ky rfl _ rfl _ _ rfl w5.heap.size rfl k rfl ky0 Z5 ?_; rw [HW6.out, HGG.out])
            | fail)
          obtain ⟨q0, q1, q2, q3, q4, q5⟩ := Y6.out.cells
          have hhz := headS_size k.id V
          have hsz := sgnS_size k.sec (headS k.id V)
          have HBZ := Lib.hid (b64S_size V)
          have HHD : Hid (headS k.id V = k.id ++ ⟨#[46]⟩ ++ b64S V) := Lib.hid rfl
          have hi1 : (k.id ++ ⟨#[46]⟩).size = k.id.size + 1 := by rw [ByteArray.size_append]; rfl
          have HB64 := Lib.hid (fun w => rbase64_any V w (by omega))
          obtain ⟨S, HSS⟩ : ∃ h, Hid (sgnS k.sec (headS k.id V) = h) := ⟨_, Lib.hid rfl⟩
          obtain ⟨B, HB⟩ : ∃ h, Hid (b64S V = h) := ⟨_, Lib.hid rfl⟩
          rw [HSS.out] at HR hsz
          rw [HB.out] at HBZ HHD HB64
          rw [HHD.out] at HR hhz HSS
          have hbz := HBZ.out
          have hgl : g < W6.drew.heap.size := Y6.out.lt
          have z1 : ¬ 9223372036854775807 < k.id.size + 1 := by omega
          have z2 : ¬ 9223372036854775807 < k.id.size + 1 + B.size := by omega
          have z3 : ¬ 9223372036854775807 < (k.id ++ ⟨#[46]⟩).size + B.size := by omega
          have HHZ := Lib.hid hhz
          clear hbz hhz
          go_region_held3 (fun w' => w'.cell? ⟨g, 0, none⟩ = some (.string k.id)) (first | go_keep | (exact (hb9.cell (p := ⟨g, 0, none⟩) hgl).trans q0) | (exact q0))
            (first | (go_at_call 47; refine (Calls.mono (HB64.out _) ?_); rintro e w9 ⟨rfl, hb9⟩))
          have hbd : Below W6.heap.size W6 w9 := ((Below.refl _ _).drew).trans hb9
          have B7 := Lib.hid (bthen B6.out hbd)
          have Y7 := Lib.hid (Y6.out.below hbd)
          clear hb9 hbd q0 q1 q2 q3 q4 q5 hgl HB64
          obtain ⟨q0, q1, q2, q3, q4, q5⟩ := Y7.out.cells
          obtain ⟨H, HH⟩ : ∃ h, Hid (k.id ++ ⟨#[46]⟩ ++ B = h) := ⟨_, Lib.hid rfl⟩
          have hhz := HHZ.out
          rw [HH.out] at HR hhz HSS HHD
          rw [HH.out]
          have h1z : (H ++ ⟨#[46]⟩).size = H.size + 1 := by rw [ByteArray.size_append]; rfl
          go_wp2_with fail
          refine (rsignature_any k.sec H _ (by omega) (by omega)).mono ?_
          rintro e wsame ⟨rfl, rfl⟩
          rw [HSS.out]
          go_wp2_with fail
          go_ret2
          exact ⟨ret_si HR.out.2.symm HR.out.1.symm, B7.out⟩
        · have hGb : (G == 0) = false := by simpa using h2
          have HR := Lib.hid (U4.out k rfl h2)
          clear h2
          have Y6 : Hid (KyBox ((w5.alloc (kyO ky0)).setRow w5.heap.size (kyA k)) w5.heap.size k) := Lib.hid Z5.out.set
          have B6 : Hid (Below w.heap.size w ((w5.alloc (kyO ky0)).setRow w5.heap.size (kyA k))) := Lib.hid (bthen B5.out (below_ky _ _ _))
          obtain ⟨g, HGG⟩ : ∃ g, Hid (w5.heap.size = g) := ⟨_, Lib.hid rfl⟩
          obtain ⟨W6, HW6⟩ : ∃ W, Hid (((w5.alloc (kyO ky0)).setRow w5.heap.size (kyA k)) = W) := ⟨_, Lib.hid rfl⟩
          rw [HW6.out, HGG.out] at Y6
          rw [HW6.out] at B6
          go_wp2_with (first
            | (refine alloc_ky rfl _ rfl rfl ?_)
            | (refine store_ky rfl _ rfl _ _ rfl w5.heap.size rfl k rfl ky0 Z5 ?_; rw [HW6.out, HGG.out])
            | fail)
          go_ret2
          exact ⟨ret_si0 HR.out.1 HR.out.2, B6.out⟩
    · have hFb : (F == 0) = false := by simpa using h1
      have HR := Lib.hid (T2.out h1)
      clear h1
      go_wp2_with fail
      go_ret2
      exact ⟨ret_si0 HR.out.1 HR.out.2, B4.out⟩
  · have hEb : (E == 0) = false := by simpa using h0
    have HR := Lib.hid (S1.out h0)
    clear h0
    go_wp2_with fail
    go_ret2
    exact ⟨ret_si0 HR.out.1 HR.out.2, B2.out⟩
end Go.Proofs.YtiiioefjdebggaaGreatDoor

/- identityref03.Same. -/
namespace Go.Proofs.YtiiioefjdebggaaGreatDoor
open Go.RowKit

set_option maxHeartbeats 1600000 in
set_option maxRecDepth 100000 in
theorem same_any (l m : List ByteArray) (A B : Option Addr) (c d : Nat) (w : World) (hA : Strs w A l) (hB : Strs w B m) (hl : l.length ≤ 1000000) (hm : m.length ≤ 1000000) :
    Calls Tryz.prog 53 #[.slice A l.length c, .slice B m.length d] w fun e w' => e = .returned (.bool (decide (l = m))) ∧ Below w.heap.size w w' := by
  by_cases hlen : l.length = m.length
  · have hb : ((l.length : Int) != (m.length : Int)) = false := by rw [hlen]; simp
    have HL := Lib.hid hlen
    have hlm : l.length ≤ m.length := by omega
    clear hlen
    go_enter Tryz.func53, Tryz.ntmps53
    go_wp2
    go_loopw [5] (fun i wr => ∃ k : Nat, k ≤ l.length ∧ i = .int .i64 k ∧ l.take k = m.take k ∧ Below w.heap.size w wr) (fun i _ => l.length - (intOf i).toNat)
    case atStart => exact ⟨0, by omega, rfl, rfl, Below.refl _ _⟩
    case round =>
      obtain ⟨k, hk, rfl, htk, hbr⟩ := hrel
      have HT := Lib.hid htk
      clear htk
      by_cases hlt : k < l.length
      · obtain ⟨b, o, rfl, hc⟩ := (hA.below hbr) k hlt
        obtain ⟨b2, o2, rfl, hc2⟩ := (hB.below hbr) k (by omega)
        have i1 : (0 : Int) ≤ (k : Int) := by omega
        have i2 : (k : Int) < (l.length : Int) := by omega
        have i3 : (k : Int) < (m.length : Int) := by omega
        by_cases he : l[k] = m[k]
        · have HS : Hid (l.take (k + 1) = m.take (k + 1)) := by
            show _ = _
            rw [List.take_succ_eq_append_getElem hlt, List.take_succ_eq_append_getElem (by omega), HT.out, he]
          go_wp2
          go_quiet (fail)
          go_wp2_with fail
          go_roundw
          case rel => exact ⟨k + 1, by omega, by go_num, HS.out, below_drewN hbr _⟩
          case measure => simp [intOf]; omega
        · have hq := str_ne he
          have HS : Hid (decide (l = m) = false) := by
            show _ = _
            rw [decide_eq_false_iff_not]
            intro e
            subst e
            exact he rfl
          clear he
          go_wp2
          go_quiet (fail)
          go_wp2_with fail
          go_ret
          exact ⟨ret_bool HS.out.symm, below_drewN hbr _⟩
      · have HS : Hid (decide (l = m) = true) := by
          show _ = _
          rw [decide_eq_true_iff]
          have h1 := HT.out
          rw [List.take_of_length_le (by omega), List.take_of_length_le (by have := HL.out; omega)] at h1
          exact h1
        go_wp2
        go_ret
        exact ⟨ret_bool HS.out.symm, hbr⟩
  · have hb : ((l.length : Int) != (m.length : Int)) = true := by rw [bne_iff_ne]; omega
    have HS : Hid (decide (l = m) = false) := by
      show _ = _
      rw [decide_eq_false_iff_not]
      intro e
      exact hlen (by rw [e])
    clear hlen
    go_enter Tryz.func53, Tryz.ntmps53
    go_wp2
    go_ret
    exact ⟨ret_bool HS.out.symm, Below.refl _ _⟩
end Go.Proofs.YtiiioefjdebggaaGreatDoor

