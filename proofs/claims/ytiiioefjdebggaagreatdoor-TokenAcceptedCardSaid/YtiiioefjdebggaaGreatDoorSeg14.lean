/- Joined: ClmREq. -/
import Derived.Test.YtiiioefjdebggaaGreatDoorSeg13
/- The reference's Equal. -/
namespace Go.Proofs.YtiiioefjdebggaaGreatDoor
open Go.RowKit

set_option maxHeartbeats 16000000 in
set_option maxRecDepth 100000 in
theorem requal_any (a b : Cl) (p q : P3) (w : World) (hA : ClAt w a p) (hB : ClAt w b q) (ma : a.aud.length ≤ 1000000 ∧ a.sco.length ≤ 1000000 ∧ a.act.length ≤ 1000000) (mb : b.aud.length ≤ 1000000 ∧ b.sco.length ≤ 1000000 ∧ b.act.length ≤ 1000000) :
    Calls Tryz.prog 19 #[clV a p, clV b q] w fun e w' => e = .returned (.bool (eqB a b)) ∧ Below w.heap.size w w' := by
  have B1 : Hid (Below w.heap.size w ((w.alloc (clO a p)).alloc (clO b q))) := Lib.hid (((Below.refl _ _).alloc (Nat.le_refl _) _).alloc (by simp) _)
  have X1 : Hid (ClBox ((w.alloc (clO a p)).alloc (clO b q)) w.heap.size a p) := Lib.hid ((ClBox.new w a p).below ((Below.refl _ _).alloc (Nat.le_refl _) _))
  have Y1 : Hid (ClBox ((w.alloc (clO a p)).alloc (clO b q)) (w.heap.size + 1) b q) := Lib.hid (by have h := ClBox.new (w.alloc (clO a p)) b q; simpa using h)
  have HA := Lib.hid hA
  have HB := Lib.hid hB
  clear hA hB
  obtain ⟨ma1, ma2, ma3⟩ := ma
  obtain ⟨mb1, mb2, mb3⟩ := mb
  have HE : Hid (eqB a b = (decide (a.kind = b.kind) && decide (a.issuer = b.issuer) && decide (a.subject = b.subject) && decide (a.client = b.client) && decide (a.tenant = b.tenant) && decide (a.id = b.id) && decide (a.session = b.session) && decide (a.nonce = b.nonce) && decide (a.aud = b.aud) && decide (a.sco = b.sco) && decide (a.act = b.act) && decide (a.issued = b.issued) && decide (a.nb = b.nb) && decide (a.exp = b.exp) && decide (a.auth = b.auth) && decide (a.level = b.level))) := Lib.hid rfl
  obtain ⟨V, HV⟩ : ∃ V, Hid (eqB a b = V) := ⟨_, Lib.hid rfl⟩
  rw [HV.out] at HE
  rw [HV.out]
  have HS1 : Hid (∀ W, Below w.heap.size w W → Calls Tryz.prog 53 #[.slice p.a1 a.aud.length p.c1, .slice q.a1 b.aud.length q.c1] W fun e w' => e = .returned (.bool (decide (a.aud = b.aud))) ∧ Below W.heap.size W w') := Lib.hid (fun W h => same_any _ _ _ _ _ _ W (HA.out.below h).aud (HB.out.below h).aud ma1 mb1)
  have HS2 : Hid (∀ W, Below w.heap.size w W → Calls Tryz.prog 53 #[.slice p.a2 a.sco.length p.c2, .slice q.a2 b.sco.length q.c2] W fun e w' => e = .returned (.bool (decide (a.sco = b.sco))) ∧ Below W.heap.size W w') := Lib.hid (fun W h => same_any _ _ _ _ _ _ W (HA.out.below h).sco (HB.out.below h).sco ma2 mb2)
  have HS3 : Hid (∀ W, Below w.heap.size w W → Calls Tryz.prog 53 #[.slice p.a3 a.act.length p.c3, .slice q.a3 b.act.length q.c3] W fun e w' => e = .returned (.bool (decide (a.act = b.act))) ∧ Below W.heap.size W w') := Lib.hid (fun W h => same_any _ _ _ _ _ _ W (HA.out.below h).act (HB.out.below h).act ma3 mb3)
  clear ma1 ma2 ma3 mb1 mb2 mb3
  obtain ⟨x0, x1, x2, x3, x4, x5, x6, x7, x8, x9, x10, x11, x12, x13, x14, x15⟩ := X1.out.cells
  obtain ⟨y0, y1, y2, y3, y4, y5, y6, y7, y8, y9, y10, y11, y12, y13, y14, y15⟩ := Y1.out.cells
  obtain ⟨a0, HFA0⟩ : ∃ v, Hid (a.kind = v) := ⟨_, Lib.hid rfl⟩
  obtain ⟨b0, HFB0⟩ : ∃ v, Hid (b.kind = v) := ⟨_, Lib.hid rfl⟩
  rw [HFA0.out] at x0
  rw [HFB0.out] at y0
  rw [HFA0.out, HFB0.out] at HE
  obtain ⟨a1, HFA1⟩ : ∃ v, Hid (a.issuer = v) := ⟨_, Lib.hid rfl⟩
  obtain ⟨b1, HFB1⟩ : ∃ v, Hid (b.issuer = v) := ⟨_, Lib.hid rfl⟩
  rw [HFA1.out] at x1
  rw [HFB1.out] at y1
  rw [HFA1.out, HFB1.out] at HE
  obtain ⟨a2, HFA2⟩ : ∃ v, Hid (a.subject = v) := ⟨_, Lib.hid rfl⟩
  obtain ⟨b2, HFB2⟩ : ∃ v, Hid (b.subject = v) := ⟨_, Lib.hid rfl⟩
  rw [HFA2.out] at x2
  rw [HFB2.out] at y2
  rw [HFA2.out, HFB2.out] at HE
  obtain ⟨a3, HFA3⟩ : ∃ v, Hid (a.client = v) := ⟨_, Lib.hid rfl⟩
  obtain ⟨b3, HFB3⟩ : ∃ v, Hid (b.client = v) := ⟨_, Lib.hid rfl⟩
  rw [HFA3.out] at x3
  rw [HFB3.out] at y3
  rw [HFA3.out, HFB3.out] at HE
  obtain ⟨a4, HFA4⟩ : ∃ v, Hid (a.tenant = v) := ⟨_, Lib.hid rfl⟩
  obtain ⟨b4, HFB4⟩ : ∃ v, Hid (b.tenant = v) := ⟨_, Lib.hid rfl⟩
  rw [HFA4.out] at x4
  rw [HFB4.out] at y4
  rw [HFA4.out, HFB4.out] at HE
  obtain ⟨a5, HFA5⟩ : ∃ v, Hid (a.id = v) := ⟨_, Lib.hid rfl⟩
  obtain ⟨b5, HFB5⟩ : ∃ v, Hid (b.id = v) := ⟨_, Lib.hid rfl⟩
  rw [HFA5.out] at x5
  rw [HFB5.out] at y5
  rw [HFA5.out, HFB5.out] at HE
  obtain ⟨a6, HFA6⟩ : ∃ v, Hid (a.session = v) := ⟨_, Lib.hid rfl⟩
  obtain ⟨b6, HFB6⟩ : ∃ v, Hid (b.session = v) := ⟨_, Lib.hid rfl⟩
  rw [HFA6.out] at x6
  rw [HFB6.out] at y6
  rw [HFA6.out, HFB6.out] at HE
  obtain ⟨a7, HFA7⟩ : ∃ v, Hid (a.nonce = v) := ⟨_, Lib.hid rfl⟩
  obtain ⟨b7, HFB7⟩ : ∃ v, Hid (b.nonce = v) := ⟨_, Lib.hid rfl⟩
  rw [HFA7.out] at x7
  rw [HFB7.out] at y7
  rw [HFA7.out, HFB7.out] at HE
  obtain ⟨a11, HFA11⟩ : ∃ v, Hid (a.issued = v) := ⟨_, Lib.hid rfl⟩
  obtain ⟨b11, HFB11⟩ : ∃ v, Hid (b.issued = v) := ⟨_, Lib.hid rfl⟩
  rw [HFA11.out] at x11
  rw [HFB11.out] at y11
  rw [HFA11.out, HFB11.out] at HE
  obtain ⟨a12, HFA12⟩ : ∃ v, Hid (a.nb = v) := ⟨_, Lib.hid rfl⟩
  obtain ⟨b12, HFB12⟩ : ∃ v, Hid (b.nb = v) := ⟨_, Lib.hid rfl⟩
  rw [HFA12.out] at x12
  rw [HFB12.out] at y12
  rw [HFA12.out, HFB12.out] at HE
  obtain ⟨a13, HFA13⟩ : ∃ v, Hid (a.exp = v) := ⟨_, Lib.hid rfl⟩
  obtain ⟨b13, HFB13⟩ : ∃ v, Hid (b.exp = v) := ⟨_, Lib.hid rfl⟩
  rw [HFA13.out] at x13
  rw [HFB13.out] at y13
  rw [HFA13.out, HFB13.out] at HE
  obtain ⟨a14, HFA14⟩ : ∃ v, Hid (a.auth = v) := ⟨_, Lib.hid rfl⟩
  obtain ⟨b14, HFB14⟩ : ∃ v, Hid (b.auth = v) := ⟨_, Lib.hid rfl⟩
  rw [HFA14.out] at x14
  rw [HFB14.out] at y14
  rw [HFA14.out, HFB14.out] at HE
  obtain ⟨a15, HFA15⟩ : ∃ v, Hid (a.level = v) := ⟨_, Lib.hid rfl⟩
  obtain ⟨b15, HFB15⟩ : ∃ v, Hid (b.level = v) := ⟨_, Lib.hid rfl⟩
  rw [HFA15.out] at x15
  rw [HFB15.out] at y15
  rw [HFA15.out, HFB15.out] at HE
  obtain ⟨s0, HD0⟩ : ∃ v, Hid (decide (a.aud = b.aud) = v) := ⟨_, Lib.hid rfl⟩
  rw [HD0.out] at HE HS1
  obtain ⟨s1, HD1⟩ : ∃ v, Hid (decide (a.sco = b.sco) = v) := ⟨_, Lib.hid rfl⟩
  rw [HD1.out] at HE HS2
  obtain ⟨s2, HD2⟩ : ∃ v, Hid (decide (a.act = b.act) = v) := ⟨_, Lib.hid rfl⟩
  rw [HD2.out] at HE HS3
  by_cases k0 : ¬ a0 = b0
  · have hG : Hid (V = false) := Lib.hid (by rw [HE.out, decide_eq_false k0]; simp)
    have e0 := str_ne k0
    have f0 : (a0.toList != b0.toList) = true := by rw [bne, e0]; rfl
    clear k0 HS1 HS2 HS3 x1 y1 x2 y2 x3 y3 x4 y4 x5 y5 x6 y6 x7 y7 x8 y8 x9 y9 x10 y10 x11 y11 x12 y12 x13 y13 x14 y14 x15 y15
    go_enter Tryz.func19, Tryz.ntmps19
    go_wp2_with (first | (refine box_cl rfl _ rfl _ rfl a p rfl ?_) | (refine box_cl rfl _ rfl _ rfl b q rfl ?_) | fail)
    go_ret
    exact ⟨ret_b hG.out.symm, B1.out⟩
  have k0 := Decidable.not_not.1 k0
  have e0 : (a0.toList == b0.toList) = true := by rw [k0]; simp
  have f0 : (a0.toList != b0.toList) = false := by rw [k0]; simp
  have K0 := Lib.hid k0
  clear k0
  by_cases k1 : ¬ a1 = b1
  · have hG : Hid (V = false) := Lib.hid (by rw [HE.out, decide_eq_false k1]; simp)
    have e1 := str_ne k1
    have f1 : (a1.toList != b1.toList) = true := by rw [bne, e1]; rfl
    clear k1 HS1 HS2 HS3 x2 y2 x3 y3 x4 y4 x5 y5 x6 y6 x7 y7 x8 y8 x9 y9 x10 y10 x11 y11 x12 y12 x13 y13 x14 y14 x15 y15
    go_enter Tryz.func19, Tryz.ntmps19
    go_wp2_with (first | (refine box_cl rfl _ rfl _ rfl a p rfl ?_) | (refine box_cl rfl _ rfl _ rfl b q rfl ?_) | fail)
    go_ret
    exact ⟨ret_b hG.out.symm, B1.out⟩
  have k1 := Decidable.not_not.1 k1
  have e1 : (a1.toList == b1.toList) = true := by rw [k1]; simp
  have f1 : (a1.toList != b1.toList) = false := by rw [k1]; simp
  have K1 := Lib.hid k1
  clear k1
  by_cases k2 : ¬ a2 = b2
  · have hG : Hid (V = false) := Lib.hid (by rw [HE.out, decide_eq_false k2]; simp)
    have e2 := str_ne k2
    have f2 : (a2.toList != b2.toList) = true := by rw [bne, e2]; rfl
    clear k2 HS1 HS2 HS3 x3 y3 x4 y4 x5 y5 x6 y6 x7 y7 x8 y8 x9 y9 x10 y10 x11 y11 x12 y12 x13 y13 x14 y14 x15 y15
    go_enter Tryz.func19, Tryz.ntmps19
    go_wp2_with (first | (refine box_cl rfl _ rfl _ rfl a p rfl ?_) | (refine box_cl rfl _ rfl _ rfl b q rfl ?_) | fail)
    go_ret
    exact ⟨ret_b hG.out.symm, B1.out⟩
  have k2 := Decidable.not_not.1 k2
  have e2 : (a2.toList == b2.toList) = true := by rw [k2]; simp
  have f2 : (a2.toList != b2.toList) = false := by rw [k2]; simp
  have K2 := Lib.hid k2
  clear k2
  by_cases k3 : ¬ a3 = b3
  · have hG : Hid (V = false) := Lib.hid (by rw [HE.out, decide_eq_false k3]; simp)
    have e3 := str_ne k3
    have f3 : (a3.toList != b3.toList) = true := by rw [bne, e3]; rfl
    clear k3 HS1 HS2 HS3 x4 y4 x5 y5 x6 y6 x7 y7 x8 y8 x9 y9 x10 y10 x11 y11 x12 y12 x13 y13 x14 y14 x15 y15
    go_enter Tryz.func19, Tryz.ntmps19
    go_wp2_with (first | (refine box_cl rfl _ rfl _ rfl a p rfl ?_) | (refine box_cl rfl _ rfl _ rfl b q rfl ?_) | fail)
    go_ret
    exact ⟨ret_b hG.out.symm, B1.out⟩
  have k3 := Decidable.not_not.1 k3
  have e3 : (a3.toList == b3.toList) = true := by rw [k3]; simp
  have f3 : (a3.toList != b3.toList) = false := by rw [k3]; simp
  have K3 := Lib.hid k3
  clear k3
  by_cases k4 : ¬ a4 = b4
  · have hG : Hid (V = false) := Lib.hid (by rw [HE.out, decide_eq_false k4]; simp)
    have e4 := str_ne k4
    have f4 : (a4.toList != b4.toList) = true := by rw [bne, e4]; rfl
    clear k4 HS1 HS2 HS3 x5 y5 x6 y6 x7 y7 x8 y8 x9 y9 x10 y10 x11 y11 x12 y12 x13 y13 x14 y14 x15 y15
    go_enter Tryz.func19, Tryz.ntmps19
    go_wp2_with (first | (refine box_cl rfl _ rfl _ rfl a p rfl ?_) | (refine box_cl rfl _ rfl _ rfl b q rfl ?_) | fail)
    go_ret
    exact ⟨ret_b hG.out.symm, B1.out⟩
  have k4 := Decidable.not_not.1 k4
  have e4 : (a4.toList == b4.toList) = true := by rw [k4]; simp
  have f4 : (a4.toList != b4.toList) = false := by rw [k4]; simp
  have K4 := Lib.hid k4
  clear k4
  by_cases k5 : ¬ a5 = b5
  · have hG : Hid (V = false) := Lib.hid (by rw [HE.out, decide_eq_false k5]; simp)
    have e5 := str_ne k5
    have f5 : (a5.toList != b5.toList) = true := by rw [bne, e5]; rfl
    clear k5 HS1 HS2 HS3 x6 y6 x7 y7 x8 y8 x9 y9 x10 y10 x11 y11 x12 y12 x13 y13 x14 y14 x15 y15
    go_enter Tryz.func19, Tryz.ntmps19
    go_wp2_with (first | (refine box_cl rfl _ rfl _ rfl a p rfl ?_) | (refine box_cl rfl _ rfl _ rfl b q rfl ?_) | fail)
    go_ret
    exact ⟨ret_b hG.out.symm, B1.out⟩
  have k5 := Decidable.not_not.1 k5
  have e5 : (a5.toList == b5.toList) = true := by rw [k5]; simp
  have f5 : (a5.toList != b5.toList) = false := by rw [k5]; simp
  have K5 := Lib.hid k5
  clear k5
  by_cases k6 : ¬ a6 = b6
  · have hG : Hid (V = false) := Lib.hid (by rw [HE.out, decide_eq_false k6]; simp)
    have e6 := str_ne k6
    have f6 : (a6.toList != b6.toList) = true := by rw [bne, e6]; rfl
    clear k6 HS1 HS2 HS3 x7 y7 x8 y8 x9 y9 x10 y10 x11 y11 x12 y12 x13 y13 x14 y14 x15 y15
    go_enter Tryz.func19, Tryz.ntmps19
    go_wp2_with (first | (refine box_cl rfl _ rfl _ rfl a p rfl ?_) | (refine box_cl rfl _ rfl _ rfl b q rfl ?_) | fail)
    go_ret
    exact ⟨ret_b hG.out.symm, B1.out⟩
  have k6 := Decidable.not_not.1 k6
  have e6 : (a6.toList == b6.toList) = true := by rw [k6]; simp
  have f6 : (a6.toList != b6.toList) = false := by rw [k6]; simp
  have K6 := Lib.hid k6
  clear k6
  by_cases k7 : ¬ a7 = b7
  · have hG : Hid (V = false) := Lib.hid (by rw [HE.out, decide_eq_false k7]; simp)
    have e7 := str_ne k7
    have f7 : (a7.toList != b7.toList) = true := by rw [bne, e7]; rfl
    clear k7 HS1 HS2 HS3 x8 y8 x9 y9 x10 y10 x11 y11 x12 y12 x13 y13 x14 y14 x15 y15
    go_enter Tryz.func19, Tryz.ntmps19
    go_wp2_with (first | (refine box_cl rfl _ rfl _ rfl a p rfl ?_) | (refine box_cl rfl _ rfl _ rfl b q rfl ?_) | fail)
    go_ret
    exact ⟨ret_b hG.out.symm, B1.out⟩
  have k7 := Decidable.not_not.1 k7
  have e7 : (a7.toList == b7.toList) = true := by rw [k7]; simp
  have f7 : (a7.toList != b7.toList) = false := by rw [k7]; simp
  have K7 := Lib.hid k7
  clear k7
  by_cases k11 : ¬ a11 = b11
  · have hG : Hid (V = false) := Lib.hid (by rw [HE.out, decide_eq_false k11]; simp)
    have f11 : (a11 != b11) = true := by rw [bne_iff_ne]; exact k11
    clear k11 HS1 HS2 HS3 x8 y8 x9 y9 x10 y10 x12 y12 x13 y13 x14 y14 x15 y15
    go_enter Tryz.func19, Tryz.ntmps19
    go_wp2_with (first | (refine box_cl rfl _ rfl _ rfl a p rfl ?_) | (refine box_cl rfl _ rfl _ rfl b q rfl ?_) | fail)
    go_ret
    exact ⟨ret_b hG.out.symm, B1.out⟩
  have k11 := Decidable.not_not.1 k11
  have f11 : (a11 != b11) = false := by rw [k11]; simp
  have K11 := Lib.hid k11
  clear k11
  by_cases k12 : ¬ a12 = b12
  · have hG : Hid (V = false) := Lib.hid (by rw [HE.out, decide_eq_false k12]; simp)
    have f12 : (a12 != b12) = true := by rw [bne_iff_ne]; exact k12
    clear k12 HS1 HS2 HS3 x8 y8 x9 y9 x10 y10 x13 y13 x14 y14 x15 y15
    go_enter Tryz.func19, Tryz.ntmps19
    go_wp2_with (first | (refine box_cl rfl _ rfl _ rfl a p rfl ?_) | (refine box_cl rfl _ rfl _ rfl b q rfl ?_) | fail)
    go_ret
    exact ⟨ret_b hG.out.symm, B1.out⟩
  have k12 := Decidable.not_not.1 k12
  have f12 : (a12 != b12) = false := by rw [k12]; simp
  have K12 := Lib.hid k12
  clear k12
  by_cases k13 : ¬ a13 = b13
  · have hG : Hid (V = false) := Lib.hid (by rw [HE.out, decide_eq_false k13]; simp)
    have f13 : (a13 != b13) = true := by rw [bne_iff_ne]; exact k13
    clear k13 HS1 HS2 HS3 x8 y8 x9 y9 x10 y10 x14 y14 x15 y15
    go_enter Tryz.func19, Tryz.ntmps19
    go_wp2_with (first | (refine box_cl rfl _ rfl _ rfl a p rfl ?_) | (refine box_cl rfl _ rfl _ rfl b q rfl ?_) | fail)
    go_ret
    exact ⟨ret_b hG.out.symm, B1.out⟩
  have k13 := Decidable.not_not.1 k13
  have f13 : (a13 != b13) = false := by rw [k13]; simp
  have K13 := Lib.hid k13
  clear k13
  by_cases k14 : ¬ a14 = b14
  · have hG : Hid (V = false) := Lib.hid (by rw [HE.out, decide_eq_false k14]; simp)
    have f14 : (a14 != b14) = true := by rw [bne_iff_ne]; exact k14
    clear k14 HS1 HS2 HS3 x8 y8 x9 y9 x10 y10 x15 y15
    go_enter Tryz.func19, Tryz.ntmps19
    go_wp2_with (first | (refine box_cl rfl _ rfl _ rfl a p rfl ?_) | (refine box_cl rfl _ rfl _ rfl b q rfl ?_) | fail)
    go_ret
    exact ⟨ret_b hG.out.symm, B1.out⟩
  have k14 := Decidable.not_not.1 k14
  have f14 : (a14 != b14) = false := by rw [k14]; simp
  have K14 := Lib.hid k14
  clear k14
  by_cases k15 : ¬ a15 = b15
  · have hG : Hid (V = false) := Lib.hid (by rw [HE.out, decide_eq_false k15]; simp)
    have f15 : (a15 != b15) = true := by rw [bne_iff_ne]; exact k15
    clear k15 HS1 HS2 HS3 x8 y8 x9 y9 x10 y10
    go_enter Tryz.func19, Tryz.ntmps19
    go_wp2_with (first | (refine box_cl rfl _ rfl _ rfl a p rfl ?_) | (refine box_cl rfl _ rfl _ rfl b q rfl ?_) | fail)
    go_ret
    exact ⟨ret_b hG.out.symm, B1.out⟩
  have k15 := Decidable.not_not.1 k15
  have f15 : (a15 != b15) = false := by rw [k15]; simp
  have K15 := Lib.hid k15
  clear k15
  have HE2 : Hid (V = (s0 && s1 && s2)) := Lib.hid (by rw [HE.out, decide_eq_true K0.out, decide_eq_true K1.out, decide_eq_true K2.out, decide_eq_true K3.out, decide_eq_true K4.out, decide_eq_true K5.out, decide_eq_true K6.out, decide_eq_true K7.out, decide_eq_true K11.out, decide_eq_true K12.out, decide_eq_true K13.out, decide_eq_true K14.out, decide_eq_true K15.out]; simp [Bool.and_assoc])
  clear HE
  go_enter Tryz.func19, Tryz.ntmps19
  go_wp2_with (first | (refine box_cl rfl _ rfl _ rfl a p rfl ?_) | (refine box_cl rfl _ rfl _ rfl b q rfl ?_) | fail)
  clear x0 y0 x1 y1 x2 y2 x3 y3 x4 y4 x5 y5 x6 y6 x7 y7
  refine (HS1.out _ B1.out).mono ?_
  rintro e w1 ⟨rfl, hb1⟩
  have B2 := Lib.hid (bthen B1.out hb1)
  have X2 := Lib.hid (X1.out.below hb1)
  have Y2 := Lib.hid (Y1.out.below hb1)
  clear hb1 x8 x9 x10 y8 y9 y10 x11 x12 x13 x14 x15 y11 y12 y13 y14 y15
  cases s0 with
  | false =>
    have hG : Hid (V = false) := Lib.hid (by rw [HE2.out]; rfl)
    go_wp2_with fail
    go_ret
    exact ⟨ret_b hG.out.symm, B2.out⟩
  | true =>
    have x9 := X2.out.cells.2.2.2.2.2.2.2.2.2.1
    have y9 := Y2.out.cells.2.2.2.2.2.2.2.2.2.1
    go_wp2_with fail
    refine (HS2.out _ B2.out).mono ?_
    rintro e w2 ⟨rfl, hb2⟩
    have B3 := Lib.hid (bthen B2.out hb2)
    have X3 := Lib.hid (X2.out.below hb2)
    have Y3 := Lib.hid (Y2.out.below hb2)
    clear hb2 x9 y9
    cases s1 with
    | false =>
      have hG : Hid (V = false) := Lib.hid (by rw [HE2.out]; rfl)
      go_wp2_with fail
      go_ret
      exact ⟨ret_b hG.out.symm, B3.out⟩
    | true =>
      have x10 := X3.out.cells.2.2.2.2.2.2.2.2.2.2.1
      have y10 := Y3.out.cells.2.2.2.2.2.2.2.2.2.2.1
      go_wp2_with fail
      refine (HS3.out _ B3.out).mono ?_
      rintro e w3 ⟨rfl, hb3⟩
      have B4 := Lib.hid (bthen B3.out hb3)
      have hG : Hid (V = s2) := Lib.hid (by rw [HE2.out]; rfl)
      clear hb3 x10 y10
      go_wp2_with fail
      go_ret
      exact ⟨ret_b hG.out.symm, B4.out⟩
end Go.Proofs.YtiiioefjdebggaaGreatDoor

