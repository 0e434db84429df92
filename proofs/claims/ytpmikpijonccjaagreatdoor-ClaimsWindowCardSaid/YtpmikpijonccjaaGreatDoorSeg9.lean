/- Joined: ClmAllow, ClmEq, ClmSample, ClmRVals, ClmREncode, ClmAwake0. -/
import Derived.Test.YtpmikpijonccjaaGreatDoorSeg4
import Derived.Test.YtpmikpijonccjaaGreatDoorSeg6
import Derived.Test.YtpmikpijonccjaaGreatDoorSeg5
import Derived.Deep.RegionHeld3
import Derived.Test.YtpmikpijonccjaaGreatDoorSeg7
import Derived.Test.YtpmikpijonccjaaGreatDoorSeg8
import Derived.Test.YtpmikpijonccjaaGreatDoorSeg2
import Derived.Test.YtpmikpijonccjaaGreatDoorSeg3
import Derived.Deep.AppendLies
import Derived.Deep.QuietTactic
import Derived.BigQuiet
import Derived.Deep.DeepCutAuto
/- claims.Allow and its reference. -/
namespace Go.Proofs.YtpmikpijonccjaaGreatDoor
open Go.RowKit

def exV (x : Ex) : Value := .agg #[.string x.kind, .string x.issuer, .string x.aud, .string x.tenant, .int .i64 x.now, .int .i64 x.skew]
set_option maxHeartbeats 4000000 in
set_option maxRecDepth 100000 in
theorem allow_any (c : Cl) (p : P3) (x : Ex) (w : World) (hl : c.aud.length ≤ 9223372036854775807) (hC : ClAt w c p) :
    Calls Tryz.prog 21 #[clV c p, exV x] w fun e w' => e = .returned (.int .i64 (allowE c x)) ∧ Below w.heap.size w w' := by
  obtain ⟨xk, xi, xa, xt, xn, xs⟩ := x
  have B1 : Hid (Below w.heap.size w ((w.alloc (clO c p)).alloc (.cells #[.string xk, .string xi, .string xa, .string xt, .int .i64 xn, .int .i64 xs] 36))) := Lib.hid (((Below.refl _ _).alloc (Nat.le_refl _) _).alloc (by simp) _)
  have X1 : Hid (ClBox ((w.alloc (clO c p)).alloc (.cells #[.string xk, .string xi, .string xa, .string xt, .int .i64 xn, .int .i64 xs] 36)) w.heap.size c p) := Lib.hid ((ClBox.new w c p).below ((Below.refl _ _).alloc (Nat.le_refl _) _))
  have HSA := Lib.hid ((hC.below B1.out).aud)
  obtain ⟨x0, x1, _, _, x4, _, _, _, x8, _, _, _, x12, x13, _, _⟩ := X1.out.cells
  have HA : Hid (allowE c ⟨xk, xi, xa, xt, xn, xs⟩ = if c.kind = xk then (if c.issuer = xi then (if c.tenant = xt then (if memB c.aud xa = true then windowE c.nb c.exp xn xs else 15) else 32) else 16) else 2) := Lib.hid rfl
  obtain ⟨V, HV⟩ : ∃ V, Hid (allowE c ⟨xk, xi, xa, xt, xn, xs⟩ = V) := ⟨_, Lib.hid rfl⟩
  rw [HV.out] at HA
  rw [HV.out]
  obtain ⟨ck, HCK⟩ : ∃ ck, Hid (c.kind = ck) := ⟨_, Lib.hid rfl⟩
  obtain ⟨ci, HCI⟩ : ∃ ci, Hid (c.issuer = ci) := ⟨_, Lib.hid rfl⟩
  obtain ⟨ct, HCT⟩ : ∃ ct, Hid (c.tenant = ct) := ⟨_, Lib.hid rfl⟩
  obtain ⟨cl, HCL⟩ : ∃ cl, Hid (c.aud = cl) := ⟨_, Lib.hid rfl⟩
  obtain ⟨cA, HCA⟩ : ∃ cA, Hid (p.a1 = cA) := ⟨_, Lib.hid rfl⟩
  obtain ⟨cc, HCC⟩ : ∃ cc, Hid (p.c1 = cc) := ⟨_, Lib.hid rfl⟩
  obtain ⟨cn, HCN⟩ : ∃ cn, Hid (c.nb = cn) := ⟨_, Lib.hid rfl⟩
  obtain ⟨ce, HCE⟩ : ∃ ce, Hid (c.exp = ce) := ⟨_, Lib.hid rfl⟩
  rw [HCK.out, HCI.out, HCT.out, HCL.out, HCN.out, HCE.out] at HA
  rw [HCK.out] at x0
  rw [HCI.out] at x1
  rw [HCT.out] at x4
  rw [HCL.out, HCA.out, HCC.out] at x8
  rw [HCL.out, HCA.out] at HSA
  rw [HCN.out] at x12
  rw [HCE.out] at x13
  rw [HCL.out] at hl
  clear hC
  show Calls Tryz.prog 21 #[clV c p, .agg #[.string xk, .string xi, .string xa, .string xt, .int .i64 xn, .int .i64 xs]] w _
  have heq : ∀ a : ByteArray, (a.toList == a.toList) = true := fun a => by simp
  by_cases k0 : ck = xk
  · have hv := HA.out
    rw [if_pos k0] at hv
    have e0 : (ck.toList == xk.toList) = true := by rw [k0]; simp
    have e0' : (ck.toList != xk.toList) = false := by rw [k0]; simp
    clear k0
    by_cases k1 : ci = xi
    · rw [if_pos k1] at hv
      have e1 : (ci.toList == xi.toList) = true := by rw [k1]; simp
      have e1' : (ci.toList != xi.toList) = false := by rw [k1]; simp
      clear k1
      by_cases k2 : ct = xt
      · rw [if_pos k2] at hv
        have e2 : (ct.toList == xt.toList) = true := by rw [k2]; simp
        have e2' : (ct.toList != xt.toList) = false := by rw [k2]; simp
        clear k2
        obtain ⟨M, HM⟩ : ∃ M, Hid (memB cl xa = M) := ⟨_, Lib.hid rfl⟩
        rw [HM.out] at hv
        have HR := Lib.hid hv
        clear hv HA heq
        go_enter Tryz.func21, Tryz.ntmps21
        go_wp2_with (first | (refine box_cl rfl _ rfl _ rfl c p rfl ?_) | fail)
        have HMM : Hid (memB (cl.take cl.length) xa = M) := Lib.hid (by rw [List.take_length]; exact HM.out)
        refine (contains_any cl cl.length (Nat.le_refl _) cA cc xa _ HSA.out hl).mono ?_
        rintro e wsame ⟨rfl, rfl⟩
        rw [HMM.out]
        cases M with
        | true =>
          have HR2 : Hid (V = windowE cn ce xn xs) := Lib.hid (by rw [HR.out]; rfl)
          go_wp2_with fail
          refine (ccheck_any cn ce xn xs _).mono ?_
          rintro e w2 ⟨rfl, hb2⟩
          have B2 := Lib.hid (bthen B1.out hb2)
          clear hb2
          go_wp2_with fail
          go_ret
          exact ⟨ret_i HR2.out.symm, B2.out⟩
        | false =>
          have HR2 : Hid (V = 15) := Lib.hid (by rw [HR.out]; rfl)
          go_wp2_with fail
          go_ret
          exact ⟨ret_i HR2.out.symm, B1.out⟩
      · rw [if_neg k2] at hv
        have HR := Lib.hid hv
        have e2 := str_ne k2
        have e2' : (ct.toList != xt.toList) = true := by rw [bne, e2]; rfl
        clear hv HA k2 heq
        go_enter Tryz.func21, Tryz.ntmps21
        go_wp2_with (first | (refine box_cl rfl _ rfl _ rfl c p rfl ?_) | fail)
        go_ret
        exact ⟨ret_i HR.out.symm, B1.out⟩
    · rw [if_neg k1] at hv
      have HR := Lib.hid hv
      have e1 := str_ne k1
      have e1' : (ci.toList != xi.toList) = true := by rw [bne, e1]; rfl
      clear hv HA k1 heq
      go_enter Tryz.func21, Tryz.ntmps21
      go_wp2_with (first | (refine box_cl rfl _ rfl _ rfl c p rfl ?_) | fail)
      go_ret
      exact ⟨ret_i HR.out.symm, B1.out⟩
  · have hv := HA.out
    rw [if_neg k0] at hv
    have HR := Lib.hid hv
    have e0 := str_ne k0
    have e0' : (ck.toList != xk.toList) = true := by rw [bne, e0]; rfl
    clear hv HA k0 heq
    go_enter Tryz.func21, Tryz.ntmps21
    go_wp2_with (first | (refine box_cl rfl _ rfl _ rfl c p rfl ?_) | fail)
    go_ret
    exact ⟨ret_i HR.out.symm, B1.out⟩
set_option maxHeartbeats 4000000 in
set_option maxRecDepth 100000 in
theorem rallow_any (c : Cl) (p : P3) (x : Ex) (w : World) (hl : c.aud.length ≤ 9223372036854775807) (hC : ClAt w c p) :
    Calls Tryz.prog 22 #[clV c p, exV x] w fun e w' => e = .returned (.int .i64 (allowE c x)) ∧ Below w.heap.size w w' := by
  obtain ⟨xk, xi, xa, xt, xn, xs⟩ := x
  have B1 : Hid (Below w.heap.size w ((w.alloc (clO c p)).alloc (.cells #[.string xk, .string xi, .string xa, .string xt, .int .i64 xn, .int .i64 xs] 36))) := Lib.hid (((Below.refl _ _).alloc (Nat.le_refl _) _).alloc (by simp) _)
  have X1 : Hid (ClBox ((w.alloc (clO c p)).alloc (.cells #[.string xk, .string xi, .string xa, .string xt, .int .i64 xn, .int .i64 xs] 36)) w.heap.size c p) := Lib.hid ((ClBox.new w c p).below ((Below.refl _ _).alloc (Nat.le_refl _) _))
  have HSA := Lib.hid ((hC.below B1.out).aud)
  obtain ⟨x0, x1, _, _, x4, _, _, _, x8, _, _, _, x12, x13, _, _⟩ := X1.out.cells
  have HA : Hid (allowE c ⟨xk, xi, xa, xt, xn, xs⟩ = if c.kind = xk then (if c.issuer = xi then (if c.tenant = xt then (if memB c.aud xa = true then windowE c.nb c.exp xn xs else 15) else 32) else 16) else 2) := Lib.hid rfl
  obtain ⟨V, HV⟩ : ∃ V, Hid (allowE c ⟨xk, xi, xa, xt, xn, xs⟩ = V) := ⟨_, Lib.hid rfl⟩
  rw [HV.out] at HA
  rw [HV.out]
  obtain ⟨ck, HCK⟩ : ∃ ck, Hid (c.kind = ck) := ⟨_, Lib.hid rfl⟩
  obtain ⟨ci, HCI⟩ : ∃ ci, Hid (c.issuer = ci) := ⟨_, Lib.hid rfl⟩
  obtain ⟨ct, HCT⟩ : ∃ ct, Hid (c.tenant = ct) := ⟨_, Lib.hid rfl⟩
  obtain ⟨cl, HCL⟩ : ∃ cl, Hid (c.aud = cl) := ⟨_, Lib.hid rfl⟩
  obtain ⟨cA, HCA⟩ : ∃ cA, Hid (p.a1 = cA) := ⟨_, Lib.hid rfl⟩
  obtain ⟨cc, HCC⟩ : ∃ cc, Hid (p.c1 = cc) := ⟨_, Lib.hid rfl⟩
  obtain ⟨cn, HCN⟩ : ∃ cn, Hid (c.nb = cn) := ⟨_, Lib.hid rfl⟩
  obtain ⟨ce, HCE⟩ : ∃ ce, Hid (c.exp = ce) := ⟨_, Lib.hid rfl⟩
  rw [HCK.out, HCI.out, HCT.out, HCL.out, HCN.out, HCE.out] at HA
  rw [HCK.out] at x0
  rw [HCI.out] at x1
  rw [HCT.out] at x4
  rw [HCL.out, HCA.out, HCC.out] at x8
  rw [HCL.out, HCA.out] at HSA
  rw [HCN.out] at x12
  rw [HCE.out] at x13
  rw [HCL.out] at hl
  clear hC
  show Calls Tryz.prog 22 #[clV c p, .agg #[.string xk, .string xi, .string xa, .string xt, .int .i64 xn, .int .i64 xs]] w _
  have heq : ∀ a : ByteArray, (a.toList == a.toList) = true := fun a => by simp
  by_cases k0 : ck = xk
  · have hv := HA.out
    rw [if_pos k0] at hv
    have e0 : (ck.toList == xk.toList) = true := by rw [k0]; simp
    have e0' : (ck.toList != xk.toList) = false := by rw [k0]; simp
    clear k0
    by_cases k1 : ci = xi
    · rw [if_pos k1] at hv
      have e1 : (ci.toList == xi.toList) = true := by rw [k1]; simp
      have e1' : (ci.toList != xi.toList) = false := by rw [k1]; simp
      clear k1
      by_cases k2 : ct = xt
      · rw [if_pos k2] at hv
        have e2 : (ct.toList == xt.toList) = true := by rw [k2]; simp
        have e2' : (ct.toList != xt.toList) = false := by rw [k2]; simp
        clear k2
        obtain ⟨M, HM⟩ : ∃ M, Hid (memB cl xa = M) := ⟨_, Lib.hid rfl⟩
        rw [HM.out] at hv
        have HR := Lib.hid hv
        clear hv HA heq
        go_enter Tryz.func22, Tryz.ntmps22
        go_wp2_with (first | (refine box_cl rfl _ rfl _ rfl c p rfl ?_) | fail)
        have HMM := HM
        refine (has_any cl cA cc xa _ HSA.out hl).mono ?_
        rintro e wsame ⟨rfl, rfl⟩
        rw [HMM.out]
        cases M with
        | true =>
          have HR2 : Hid (V = windowE cn ce xn xs) := Lib.hid (by rw [HR.out]; rfl)
          go_wp2_with fail
          refine (rccheck_any cn ce xn xs _).mono ?_
          rintro e w2 ⟨rfl, hb2⟩
          have B2 := Lib.hid (bthen B1.out hb2)
          clear hb2
          go_wp2_with fail
          go_ret
          exact ⟨ret_i HR2.out.symm, B2.out⟩
        | false =>
          have HR2 : Hid (V = 15) := Lib.hid (by rw [HR.out]; rfl)
          go_wp2_with fail
          go_ret
          exact ⟨ret_i HR2.out.symm, B1.out⟩
      · rw [if_neg k2] at hv
        have HR := Lib.hid hv
        have e2 := str_ne k2
        have e2' : (ct.toList != xt.toList) = true := by rw [bne, e2]; rfl
        clear hv HA k2 heq
        go_enter Tryz.func22, Tryz.ntmps22
        go_wp2_with (first | (refine box_cl rfl _ rfl _ rfl c p rfl ?_) | fail)
        go_ret
        exact ⟨ret_i HR.out.symm, B1.out⟩
    · rw [if_neg k1] at hv
      have HR := Lib.hid hv
      have e1 := str_ne k1
      have e1' : (ci.toList != xi.toList) = true := by rw [bne, e1]; rfl
      clear hv HA k1 heq
      go_enter Tryz.func22, Tryz.ntmps22
      go_wp2_with (first | (refine box_cl rfl _ rfl _ rfl c p rfl ?_) | fail)
      go_ret
      exact ⟨ret_i HR.out.symm, B1.out⟩
  · have hv := HA.out
    rw [if_neg k0] at hv
    have HR := Lib.hid hv
    have e0 := str_ne k0
    have e0' : (ck.toList != xk.toList) = true := by rw [bne, e0]; rfl
    clear hv HA k0 heq
    go_enter Tryz.func22, Tryz.ntmps22
    go_wp2_with (first | (refine box_cl rfl _ rfl _ rfl c p rfl ?_) | fail)
    go_ret
    exact ⟨ret_i HR.out.symm, B1.out⟩
end Go.Proofs.YtpmikpijonccjaaGreatDoor

/- claims.Equal. -/
namespace Go.Proofs.YtpmikpijonccjaaGreatDoor
open Go.RowKit

theorem sequal_any (l m : List ByteArray) (A B : Option Addr) (c d : Nat) (w : World) (hA : Strs w A l) (hB : Strs w B m) (hl : l.length ≤ 9223372036854775807) (hm : m.length ≤ 9223372036854775807) :
    Calls Tryz.prog 39 #[.slice A l.length c, .slice B m.length d] w fun e w' => e = .returned (.bool (decide (l = m))) ∧ Below w.heap.size w w' := by
  by_cases hlen : l.length = m.length
  · by_cases h0 : l.length = 0
    · have e1 : l = [] := List.eq_nil_of_length_eq_zero h0
      have e2 : m = [] := List.eq_nil_of_length_eq_zero (hlen ▸ h0)
      subst e1; subst e2
      refine (Tryz.slices_Equal_string_empty A B c 0 d w hm).mono fun e w' ⟨he, hw⟩ => ⟨?_, hw ▸ Below.refl _ _⟩
      rw [he]; rfl
    · obtain ⟨b, o, rfl, _⟩ := hA 0 (by omega)
      obtain ⟨b2, o2, rfl, _⟩ := hB 0 (by omega)
      have f : ∀ (b o : Nat) (l : List ByteArray), Strs w (some ⟨b, o, none⟩) l → ∀ j, j < l.length → w.cell? ⟨b, o + j, none⟩ = some (.string (l.getD j ByteArray.empty)) := fun b o l hS j hj => by
        obtain ⟨b', o', e, hc⟩ := hS j hj
        injection e with e
        injection e with e1 e2
        subst e1; subst e2
        rw [hc, List.getD_eq_getElem?_getD, List.getElem?_eq_getElem hj, Option.getD_some]
      refine (Tryz.slices_Equal_string b o l.length c b2 o2 m.length d l m w (Nat.le_refl _) (Nat.le_refl _) hl hm (f b o l hA) (f b2 o2 m hB)).mono fun e w' ⟨he, q, hw⟩ => ⟨?_, ?_⟩
      · rw [he, List.take_length, List.take_length]
      · rw [hw]; exact below_drewN' (Below.refl _ _) q
  · refine (Tryz.slices_Equal_string_lens A B l.length c m.length d w hlen).mono fun e w' ⟨he, hw⟩ => ⟨?_, hw ▸ Below.refl _ _⟩
    rw [he, decide_eq_false]
    rintro rfl
    exact hlen rfl
/-- Equal so far. -/
def eqS (a b : Cl) (k : Nat) : Prop := ∀ i, i < k → strAt a i = strAt b i
def eqL (a b : Cl) (k : Nat) : Prop := ∀ i, i < k → lstAt a i = lstAt b i
def eqN (a b : Cl) (k : Nat) : Prop := ∀ i, i < k → numAt a i = numAt b i
theorem eqS_next {a b : Cl} {k : Nat} (h : eqS a b k) (e : strAt a k = strAt b k) : eqS a b (k + 1) := fun i hi => by
  rcases Nat.lt_or_ge i k with h1 | h1
  · exact h i h1
  · obtain rfl : i = k := by omega
    exact e
theorem eqL_next {a b : Cl} {k : Nat} (h : eqL a b k) (e : lstAt a k = lstAt b k) : eqL a b (k + 1) := fun i hi => by
  rcases Nat.lt_or_ge i k with h1 | h1
  · exact h i h1
  · obtain rfl : i = k := by omega
    exact e
theorem eqN_next {a b : Cl} {k : Nat} (h : eqN a b k) (e : numAt a k = numAt b k) : eqN a b (k + 1) := fun i hi => by
  rcases Nat.lt_or_ge i k with h1 | h1
  · exact h i h1
  · obtain rfl : i = k := by omega
    exact e
theorem eq_all {a b : Cl} (h1 : eqS a b 8) (h2 : eqL a b 3) (h3 : eqN a b 5) : eqB a b = true := by
  rw [eqB_iff]
  cases a; cases b
  have s0 := h1 0 (by omega)
  have s1 := h1 1 (by omega)
  have s2 := h1 2 (by omega)
  have s3 := h1 3 (by omega)
  have s4 := h1 4 (by omega)
  have s5 := h1 5 (by omega)
  have s6 := h1 6 (by omega)
  have s7 := h1 7 (by omega)
  have l0 := h2 0 (by omega)
  have l1 := h2 1 (by omega)
  have l2 := h2 2 (by omega)
  have n0 := h3 0 (by omega)
  have n1 := h3 1 (by omega)
  have n2 := h3 2 (by omega)
  have n3 := h3 3 (by omega)
  have n4 := h3 4 (by omega)
  simp only [strAt, lstAt, numAt, List.getD_cons_zero, List.getD_cons_succ] at s0 s1 s2 s3 s4 s5 s6 s7 l0 l1 l2 n0 n1 n2 n3 n4
  subst s0; subst s1; subst s2; subst s3; subst s4; subst s5; subst s6; subst s7; subst l0; subst l1; subst l2; subst n0; subst n1; subst n2; subst n3; subst n4
  rfl
theorem ne_str {a b : Cl} {k : Nat} (h : strAt a k ≠ strAt b k) : eqB a b = false := by
  rw [Bool.eq_false_iff]; intro e; rw [eqB_iff] at e; exact h (by rw [e])
theorem ne_lst {a b : Cl} {k : Nat} (h : lstAt a k ≠ lstAt b k) : eqB a b = false := by
  rw [Bool.eq_false_iff]; intro e; rw [eqB_iff] at e; exact h (by rw [e])
theorem ne_num {a b : Cl} {k : Nat} (h : numAt a k ≠ numAt b k) : eqB a b = false := by
  rw [Bool.eq_false_iff]; intro e; rw [eqB_iff] at e; exact h (by rw [e])
set_option maxHeartbeats 16000000 in
set_option maxRecDepth 100000 in
theorem equal_any (a b : Cl) (p q : P3) (w : World) (ha : ClIn a p) (hb : ClIn b q) (hA : ClAt w a p) (hB : ClAt w b q) :
    Calls Tryz.prog 14 #[clV a p, clV b q] w fun e w' => e = .returned (.bool (eqB a b)) ∧ Below w.heap.size w w' := by
  have B1 : Hid (Below w.heap.size w ((w.alloc (clO a p)).alloc (clO b q))) := Lib.hid (((Below.refl _ _).alloc (Nat.le_refl _) _).alloc (by simp) _)
  have X1 : Hid (ClBox ((w.alloc (clO a p)).alloc (clO b q)) w.heap.size a p) := Lib.hid ((ClBox.new w a p).below ((Below.refl _ _).alloc (Nat.le_refl _) _))
  have Y1 : Hid (ClBox ((w.alloc (clO a p)).alloc (clO b q)) (w.heap.size + 1) b q) := Lib.hid (by have h := ClBox.new (w.alloc (clO a p)) b q; simpa using h)
  have HA := Lib.hid hA
  have HB := Lib.hid hB
  have IA := Lib.hid ha
  have IB := Lib.hid hb
  clear hA hB ha hb
  obtain ⟨V, HV⟩ : ∃ V, Hid (eqB a b = V) := ⟨_, Lib.hid rfl⟩
  have HNS : Hid (∀ k, strAt a k ≠ strAt b k → V = false) := Lib.hid (fun k h => by rw [← HV.out]; exact ne_str h)
  have HNL : Hid (∀ k, lstAt a k ≠ lstAt b k → V = false) := Lib.hid (fun k h => by rw [← HV.out]; exact ne_lst h)
  have HNN : Hid (∀ k, numAt a k ≠ numAt b k → V = false) := Lib.hid (fun k h => by rw [← HV.out]; exact ne_num h)
  have HAL : Hid (eqS a b 8 → eqL a b 3 → eqN a b 5 → V = true) := Lib.hid (fun h1 h2 h3 => by rw [← HV.out]; exact eq_all h1 h2 h3)
  rw [HV.out]
  go_enter Tryz.func14, Tryz.ntmps14
  go_wp2_with (first | (refine box_cl rfl _ rfl _ rfl a p rfl ?_) | (refine box_cl rfl _ rfl _ rfl b q rfl ?_) | fail)
  refine (texts_any w.heap.size _).mono ?_
  rintro e w1 ⟨rfl, hb1⟩
  have hz1 : w.heap.size + 2 ≤ w1.heap.size := by have := hb1.size; simp at this; omega
  have B2 := Lib.hid (bthen B1.out hb1)
  have X2 := Lib.hid (X1.out.below hb1)
  have Y2 := Lib.hid (Y1.out.below hb1)
  clear hb1 B1 X1 Y1
  go_wp2_with fail
  go_loopw [12] (fun i wr => ∃ k : Nat, k ≤ 8 ∧ i = .int .i64 k ∧ Hid (eqS a b k) ∧ Hid (Below w.heap.size w wr) ∧ Hid (ClBox wr w.heap.size a p) ∧ Hid (ClBox wr (w.heap.size + 1) b q) ∧ w.heap.size + 2 ≤ wr.heap.size) (fun i _ => 8 - (intOf i).toNat)
  case atStart => exact ⟨0, Nat.zero_le _, rfl, Lib.hid (fun i hi => absurd hi (by omega)), B2, X2, Y2, hz1⟩
  case round =>
    obtain ⟨k, hk, rfl, HEQ, BR, XR, YR, hzr⟩ := hrel
    clear B2 X2 Y2
    by_cases hlt : k < 8
    · have hidx := fun W => idx_texts w.heap.size k hlt W
      have hidx2 := fun W => idx_texts (w.heap.size + 1) k hlt W
      have HKX : Hid (∀ W, Below wr.heap.size wr W → W.cell? ⟨w.heap.size, k, none⟩ = some (.string (strAt a k)) ∧ W.cell? ⟨w.heap.size + 1, k, none⟩ = some (.string (strAt b k))) := Lib.hid (fun W h => ⟨(XR.out.below h).str k hlt, (YR.out.below h).str k hlt⟩)
      have HNX := Lib.hid (HNS.out k)
      have HEN := Lib.hid (fun e => eqS_next (k := k) HEQ.out e)
      obtain ⟨x, HX⟩ : ∃ x, Hid (strAt a k = x) := ⟨_, Lib.hid rfl⟩
      obtain ⟨y, HY⟩ : ∃ x, Hid (strAt b k = x) := ⟨_, Lib.hid rfl⟩
      rw [HX.out, HY.out] at HKX HNX HEN
      obtain ⟨c1, c2⟩ := HKX.out wr (Below.refl _ _)
      have hk0 : (0 : Int) ≤ (k : Int) := by omega
      by_cases hxy : x = y
      · have HE2 := Lib.hid (HEN.out hxy)
        have e1 : (x.toList == y.toList) = true := by rw [hxy]; simp
        have e2 : (x.toList != y.toList) = false := by rw [hxy]; simp
        clear hxy
        go_wp2_with fail
        go_region_held3 (fun w' => w'.cell? ⟨w.heap.size, k, none⟩ = some (.string x) ∧ w'.cell? ⟨w.heap.size + 1, k, none⟩ = some (.string y))
          (first
            | go_keep
            | (exact HKX.out _ HB3.out))
          (first
            | (go_at_call 37; refine (texts_any (w.heap.size + 1) _).mono ?_; rintro e w3 ⟨rfl, hb3⟩; have HB3 : Hid (Below wr.heap.size wr w3) := Lib.hid ((Below.refl wr.heap.size wr).drew.trans hb3); clear hb3))
        have B4 := Lib.hid (bthen BR.out HB3.out)
        have X4 : Hid (ClBox w3 w.heap.size a p) := Lib.hid (XR.out.below HB3.out)
        have Y4 : Hid (ClBox w3 (w.heap.size + 1) b q) := Lib.hid (YR.out.below HB3.out)
        have hz4 : w.heap.size + 2 ≤ w3.heap.size := Nat.le_trans hzr (HB3.out).size
        clear HB3 c1 c2 hidx hidx2
        go_wp2_with fail
        go_roundw
        case rel => exact ⟨k + 1, hlt, by go_num, HE2, B4, X4, Y4, hz4⟩
        case measure => simp [intOf]; omega
      · have hG := Lib.hid (HNX.out hxy)
        have e1 := str_ne hxy
        have e2 : (x.toList != y.toList) = true := by rw [bne, e1]; rfl
        clear hxy
        go_wp2_with fail
        go_region_held3 (fun w' => w'.cell? ⟨w.heap.size, k, none⟩ = some (.string x) ∧ w'.cell? ⟨w.heap.size + 1, k, none⟩ = some (.string y))
          (first
            | go_keep
            | (exact HKX.out _ HB3.out))
          (first
            | (go_at_call 37; refine (texts_any (w.heap.size + 1) _).mono ?_; rintro e w3 ⟨rfl, hb3⟩; have HB3 : Hid (Below wr.heap.size wr w3) := Lib.hid ((Below.refl wr.heap.size wr).drew.trans hb3); clear hb3))
        have B4 := Lib.hid (bthen BR.out HB3.out)
        clear HB3 c1 c2 hidx hidx2
        go_wp2_with fail
        go_ret
        exact ⟨ret_b hG.out.symm, B4.out⟩
    · obtain rfl : k = 8 := by omega
      have HE8 := HEQ
      clear HEQ
      go_wp2_with fail
      refine (lists_any w.heap.size _).mono ?_
      rintro e wa ⟨rfl, hba⟩
      have B2 := Lib.hid (bthen BR.out hba)
      have X2 := Lib.hid (XR.out.below hba)
      have Y2 := Lib.hid (YR.out.below hba)
      have hz1 : w.heap.size + 2 ≤ wa.heap.size := by have := hba.size; omega
      clear hba BR XR YR hzr hlt
      go_wp2_with fail
      go_loopw [27] (fun i wr => ∃ k : Nat, k ≤ 3 ∧ i = .int .i64 k ∧ Hid (eqL a b k) ∧ Hid (Below w.heap.size w wr) ∧ Hid (ClBox wr w.heap.size a p) ∧ Hid (ClBox wr (w.heap.size + 1) b q) ∧ w.heap.size + 2 ≤ wr.heap.size) (fun i _ => 3 - (intOf i).toNat)
      case atStart => exact ⟨0, Nat.zero_le _, rfl, Lib.hid (fun i hi => absurd hi (by omega)), B2, X2, Y2, hz1⟩
      case round =>
        obtain ⟨k, hk, rfl, HEQ, BR, XR, YR, hzr⟩ := hrel
        clear B2 X2 Y2
        by_cases hlt : k < 3
        · have hidx := fun W => idx_lists w.heap.size k hlt W
          have hidx2 := fun W => idx_lists (w.heap.size + 1) k hlt W
          have HKX : Hid (∀ W, Below wr.heap.size wr W → W.cell? ⟨w.heap.size, 8 + k, none⟩ = some (.slice (adrAt p k) (lstAt a k).length (capAt p k)) ∧ W.cell? ⟨w.heap.size + 1, 8 + k, none⟩ = some (.slice (adrAt q k) (lstAt b k).length (capAt q k))) := Lib.hid (fun W h => ⟨(XR.out.below h).lst k hlt, (YR.out.below h).lst k hlt⟩)
          have HSE : Hid (∀ W, Below w.heap.size w W → Calls Tryz.prog 39 #[.slice (adrAt p k) (lstAt a k).length (capAt p k), .slice (adrAt q k) (lstAt b k).length (capAt q k)] W fun e w' => e = .returned (.bool (decide (lstAt a k = lstAt b k))) ∧ Below W.heap.size W w') := Lib.hid (fun W h => sequal_any _ _ _ _ _ _ W ((HA.out.below h).lst k hlt) ((HB.out.below h).lst k hlt) (IA.out.lst k hlt).2.1 (IB.out.lst k hlt).2.1)
          have HNX := Lib.hid (HNL.out k)
          have HEN := Lib.hid (fun e => eqL_next (k := k) HEQ.out e)
          obtain ⟨x, HX⟩ : ∃ x, Hid (lstAt a k = x) := ⟨_, Lib.hid rfl⟩
          obtain ⟨y, HY⟩ : ∃ x, Hid (lstAt b k = x) := ⟨_, Lib.hid rfl⟩
          obtain ⟨pa, HPA⟩ : ∃ x, Hid (adrAt p k = x) := ⟨_, Lib.hid rfl⟩
          obtain ⟨qa, HQA⟩ : ∃ x, Hid (adrAt q k = x) := ⟨_, Lib.hid rfl⟩
          obtain ⟨pc, HPC⟩ : ∃ x, Hid (capAt p k = x) := ⟨_, Lib.hid rfl⟩
          obtain ⟨qc, HQC⟩ : ∃ x, Hid (capAt q k = x) := ⟨_, Lib.hid rfl⟩
          rw [HX.out, HY.out] at HNX HEN
          rw [HX.out, HY.out, HPA.out, HQA.out, HPC.out, HQC.out] at HKX HSE
          obtain ⟨c1, c2⟩ := HKX.out wr (Below.refl _ _)
          have hk0 : (0 : Int) ≤ (k : Int) := by omega
          by_cases hxy : x = y
          · have HE2 := Lib.hid (HEN.out hxy)
            have HSQ : Hid (∀ W, Below w.heap.size w W → Calls Tryz.prog 39 #[.slice pa x.length pc, .slice qa y.length qc] W fun e w' => e = .returned (.bool true) ∧ Below W.heap.size W w') := Lib.hid (fun W h => by have := HSE.out W h; rwa [decide_eq_true hxy] at this)
            clear hxy
            go_wp2_with fail
            go_region_held3 (fun w' => w'.cell? ⟨w.heap.size, 8 + k, none⟩ = some (.slice pa x.length pc) ∧ w'.cell? ⟨w.heap.size + 1, 8 + k, none⟩ = some (.slice qa y.length qc))
              (first
                | go_keep
                | (exact HKX.out _ HW4.out)
                | (exact HKX.out _ HB3.out))
              (first
                | (go_at_call 38; refine (lists_any (w.heap.size + 1) _).mono ?_; rintro e w3 ⟨rfl, hb3⟩; have HB3 : Hid (Below wr.heap.size wr w3) := Lib.hid ((Below.refl wr.heap.size wr).drew.trans hb3); clear hb3)
                | (go_at_call 39; refine (HSQ.out _ (bthen BR.out HB3.out)).mono ?_; rintro e w4 ⟨rfl, hb4⟩; have HW4 : Hid (Below wr.heap.size wr w4) := Lib.hid (bthen HB3.out hb4)))
            have B4 := Lib.hid (bthen BR.out HW4.out)
            have X4 : Hid (ClBox w4 w.heap.size a p) := Lib.hid (XR.out.below HW4.out)
            have Y4 : Hid (ClBox w4 (w.heap.size + 1) b q) := Lib.hid (YR.out.below HW4.out)
            have hz4 : w.heap.size + 2 ≤ w4.heap.size := Nat.le_trans hzr (HW4.out).size
            clear HB3 hb4 c1 c2 hidx hidx2
            go_wp2_with fail
            go_roundw
            case rel => exact ⟨k + 1, hlt, by go_num, HE2, B4, X4, Y4, hz4⟩
            case measure => simp [intOf]; omega
          · have hG := Lib.hid (HNX.out hxy)
            have HSQ : Hid (∀ W, Below w.heap.size w W → Calls Tryz.prog 39 #[.slice pa x.length pc, .slice qa y.length qc] W fun e w' => e = .returned (.bool false) ∧ Below W.heap.size W w') := Lib.hid (fun W h => by have := HSE.out W h; rwa [decide_eq_false hxy] at this)
            clear hxy
            go_wp2_with fail
            go_region_held3 (fun w' => w'.cell? ⟨w.heap.size, 8 + k, none⟩ = some (.slice pa x.length pc) ∧ w'.cell? ⟨w.heap.size + 1, 8 + k, none⟩ = some (.slice qa y.length qc))
              (first
                | go_keep
                | (exact HKX.out _ HW4.out)
                | (exact HKX.out _ HB3.out))
              (first
                | (go_at_call 38; refine (lists_any (w.heap.size + 1) _).mono ?_; rintro e w3 ⟨rfl, hb3⟩; have HB3 : Hid (Below wr.heap.size wr w3) := Lib.hid ((Below.refl wr.heap.size wr).drew.trans hb3); clear hb3)
                | (go_at_call 39; refine (HSQ.out _ (bthen BR.out HB3.out)).mono ?_; rintro e w4 ⟨rfl, hb4⟩; have HW4 : Hid (Below wr.heap.size wr w4) := Lib.hid (bthen HB3.out hb4)))
            have B4 := Lib.hid (bthen BR.out HW4.out)
            clear HB3 hb4 c1 c2 hidx hidx2
            go_wp2_with fail
            go_ret
            exact ⟨ret_b hG.out.symm, B4.out⟩
        · obtain rfl : k = 3 := by omega
          have HE3 := HEQ
          clear HEQ
          go_wp2_with fail
          refine (numbers_any w.heap.size _).mono ?_
          rintro e wa ⟨rfl, hba⟩
          have B2 := Lib.hid (bthen BR.out hba)
          have X2 := Lib.hid (XR.out.below hba)
          have Y2 := Lib.hid (YR.out.below hba)
          have hz1 : w.heap.size + 2 ≤ wa.heap.size := by have := hba.size; omega
          clear hba BR XR YR hzr hlt
          go_wp2_with fail
          go_loopw [43] (fun i wr => ∃ k : Nat, k ≤ 5 ∧ i = .int .i64 k ∧ Hid (eqN a b k) ∧ Hid (Below w.heap.size w wr) ∧ Hid (ClBox wr w.heap.size a p) ∧ Hid (ClBox wr (w.heap.size + 1) b q) ∧ w.heap.size + 2 ≤ wr.heap.size) (fun i _ => 5 - (intOf i).toNat)
          case atStart => exact ⟨0, Nat.zero_le _, rfl, Lib.hid (fun i hi => absurd hi (by omega)), B2, X2, Y2, hz1⟩
          case round =>
            obtain ⟨k, hk, rfl, HEQ, BR, XR, YR, hzr⟩ := hrel
            clear B2 X2 Y2
            by_cases hlt : k < 5
            · have hidx := fun W => idx_numbers w.heap.size k hlt W
              have hidx2 := fun W => idx_numbers (w.heap.size + 1) k hlt W
              have HKX : Hid (∀ W, Below wr.heap.size wr W → W.cell? ⟨w.heap.size, 11 + k, none⟩ = some (.int .i64 (numAt a k)) ∧ W.cell? ⟨w.heap.size + 1, 11 + k, none⟩ = some (.int .i64 (numAt b k))) := Lib.hid (fun W h => ⟨(XR.out.below h).num k hlt, (YR.out.below h).num k hlt⟩)
              have HNX := Lib.hid (HNN.out k)
              have HEN := Lib.hid (fun e => eqN_next (k := k) HEQ.out e)
              obtain ⟨x, HX⟩ : ∃ x, Hid (numAt a k = x) := ⟨_, Lib.hid rfl⟩
              obtain ⟨y, HY⟩ : ∃ x, Hid (numAt b k = x) := ⟨_, Lib.hid rfl⟩
              rw [HX.out, HY.out] at HKX HNX HEN
              obtain ⟨c1, c2⟩ := HKX.out wr (Below.refl _ _)
              have hk0 : (0 : Int) ≤ (k : Int) := by omega
              by_cases hxy : x = y
              · have HE2 := Lib.hid (HEN.out hxy)
                have e2 : (x != y) = false := by rw [hxy]; simp
                clear hxy
                go_wp2_with fail
                go_region_held3 (fun w' => w'.cell? ⟨w.heap.size, 11 + k, none⟩ = some (.int .i64 x) ∧ w'.cell? ⟨w.heap.size + 1, 11 + k, none⟩ = some (.int .i64 y))
                  (first
                    | go_keep
                    | (exact HKX.out _ HB3.out))
                  (first
                    | (go_at_call 40; refine (numbers_any (w.heap.size + 1) _).mono ?_; rintro e w3 ⟨rfl, hb3⟩; have HB3 : Hid (Below wr.heap.size wr w3) := Lib.hid ((Below.refl wr.heap.size wr).drew.trans hb3); clear hb3))
                have B4 := Lib.hid (bthen BR.out HB3.out)
                have X4 : Hid (ClBox w3 w.heap.size a p) := Lib.hid (XR.out.below HB3.out)
                have Y4 : Hid (ClBox w3 (w.heap.size + 1) b q) := Lib.hid (YR.out.below HB3.out)
                have hz4 : w.heap.size + 2 ≤ w3.heap.size := Nat.le_trans hzr (HB3.out).size
                clear HB3 c1 c2 hidx hidx2
                go_wp2_with fail
                go_roundw
                case rel => exact ⟨k + 1, hlt, by go_num, HE2, B4, X4, Y4, hz4⟩
                case measure => simp [intOf]; omega
              · have hG := Lib.hid (HNX.out hxy)
                have e2 : (x != y) = true := by rw [bne_iff_ne]; exact hxy
                clear hxy
                go_wp2_with fail
                go_region_held3 (fun w' => w'.cell? ⟨w.heap.size, 11 + k, none⟩ = some (.int .i64 x) ∧ w'.cell? ⟨w.heap.size + 1, 11 + k, none⟩ = some (.int .i64 y))
                  (first
                    | go_keep
                    | (exact HKX.out _ HB3.out))
                  (first
                    | (go_at_call 40; refine (numbers_any (w.heap.size + 1) _).mono ?_; rintro e w3 ⟨rfl, hb3⟩; have HB3 : Hid (Below wr.heap.size wr w3) := Lib.hid ((Below.refl wr.heap.size wr).drew.trans hb3); clear hb3))
                have B4 := Lib.hid (bthen BR.out HB3.out)
                clear HB3 c1 c2 hidx hidx2
                go_wp2_with fail
                go_ret
                exact ⟨ret_b hG.out.symm, B4.out⟩
            · obtain rfl : k = 5 := by omega
              have hG := Lib.hid (HAL.out HE8.out HE3.out HEQ.out)
              go_wp2_with fail
              go_ret
              exact ⟨ret_b hG.out.symm, BR.out⟩
end Go.Proofs.YtpmikpijonccjaaGreatDoor

/- The chapter's examples. -/
namespace Go.Proofs.YtpmikpijonccjaaGreatDoor
open Go.RowKit

def smpA : List ByteArray := [⟨#[109, 97, 105, 108]⟩, ⟨#[102, 105, 108, 101, 115]⟩]
def smpS : List ByteArray := [⟨#[109, 97, 105, 108, 46, 114, 101, 97, 100]⟩]
/-- The sample. -/
def smp : Cl := ⟨⟨#[97, 99, 99, 101, 115, 115]⟩, ⟨#[104, 116, 116, 112, 115, 58, 47, 47, 105, 100]⟩, ⟨#[97, 110, 110]⟩, ⟨#[119, 101, 98]⟩, ⟨#[116, 49]⟩, ⟨#[120, 49]⟩, ⟨#[]⟩, ⟨#[]⟩, smpA, smpS, [], 5, 5, 20, 3, 2⟩
def withLev (c : Cl) (n : Int) : Cl := ⟨c.kind, c.issuer, c.subject, c.client, c.tenant, c.id, c.session, c.nonce, c.aud, c.sco, c.act, c.issued, c.nb, c.exp, c.auth, n⟩
theorem smp_check : checkE smp = 0 := by decide +kernel
theorem smp_none : checkE (withAud smp []) = 6 := by decide +kernel
theorem smp_strong : checkE (withLev smp 4) = 27 := by decide +kernel
theorem smp_size : (encS smp).size ≤ 4096 ∧ 12 ≤ (encS smp).size := by decide +kernel
theorem smp_head : (encS smp).extract 0 12 = ⟨#[107, 105, 110, 100, 61, 97, 99, 99, 101, 115, 115, 10]⟩ := by decide +kernel
theorem smp_nar : narE smp [] smpA 20 = 0 ∧ eqB (narC smp [] smpA 20) (withSco smp []) = true := by decide +kernel
theorem smp_act1 : actEr smp ⟨#[97, 110, 110]⟩ = 28 := by decide +kernel
theorem smp_act2 : actEr smp ⟨#[98, 111, 98]⟩ = 0 := by decide +kernel
def exX : Ex := ⟨⟨#[97, 99, 99, 101, 115, 115]⟩, ⟨#[104, 116, 116, 112, 115, 58, 47, 47, 105, 100]⟩, ⟨#[102, 105, 108, 101, 115]⟩, ⟨#[116, 49]⟩, 19, 0⟩
def exL : Ex := ⟨⟨#[97, 99, 99, 101, 115, 115]⟩, ⟨#[104, 116, 116, 112, 115, 58, 47, 47, 105, 100]⟩, ⟨#[102, 105, 108, 101, 115]⟩, ⟨#[116, 49]⟩, 20, 0⟩
def exO : Ex := ⟨⟨#[97, 99, 99, 101, 115, 115]⟩, ⟨#[104, 116, 116, 112, 115, 58, 47, 47, 105, 100]⟩, ⟨#[120]⟩, ⟨#[116, 49]⟩, 19, 0⟩
theorem smp_al1 : allowE smp exX = 0 := by decide +kernel
theorem smp_al2 : allowE smp exL = 13 := by decide +kernel
theorem smp_al3 : allowE smp exO = 15 := by decide +kernel
end Go.Proofs.YtpmikpijonccjaaGreatDoor

/- The reference's keys and values. -/
namespace Go.Proofs.YtpmikpijonccjaaGreatDoor
open Go.RowKit

/-- Strings of a block. -/
theorem strs_row {w : World} {b : Nat} {l : List ByteArray} {cs : Array Value} {t : TypeId} (h : w.heap[b]? = some (.cells cs t (0, 0))) (hc : ∀ j, (hj : j < l.length) → cs[j]? = some (.string l[j])) : Strs w (some ⟨b, 0, none⟩) l := by
  intro i hi
  refine ⟨b, 0, rfl, ?_⟩
  rw [Nat.zero_add, cell_of_row w b i _ _ (0, 0) h, hc i hi]
set_option maxHeartbeats 1000000 in
theorem rkeys_any (w : World) :
    Calls Tryz.prog 43 #[] w fun e w' => e = .returned (.slice (some ⟨w.heap.size, 0, none⟩) 16 16) ∧ (Strs w' (some ⟨w.heap.size, 0, none⟩) keysS ∧ Below w.heap.size w w') := by
  have HR : Hid (Strs (w.alloc (.cells keyCells 9)) (some ⟨w.heap.size, 0, none⟩) keysS) := Lib.hid (strs_row (heap_alloc_new w _) (fun j hj => by
    show (keysS.map Value.string).toArray[j]? = _
    rw [List.getElem?_toArray, List.getElem?_map, List.getElem?_eq_getElem hj]
    rfl))
  have HB : Hid (Below w.heap.size w (w.alloc (.cells keyCells 9))) := Lib.hid ((Below.refl _ _).alloc (Nat.le_refl _) _)
  go_enter Tryz.func43, Tryz.ntmps43
  go_wp2_with fail
  go_ret
  exact ⟨rfl, HR.out, HB.out⟩
def strCells (c : Cl) : Array Value := #[.string c.kind, .string c.issuer, .string c.subject, .string c.client, .string c.tenant, .string c.id, .string c.session, .string c.nonce]
def numCells (c : Cl) : Array Value := #[.int .i64 c.issued, .int .i64 c.nb, .int .i64 c.exp, .int .i64 c.auth, .int .i64 c.level]
theorem strCells_at (c : Cl) (k : Nat) (hk : k < 8) : (strCells c)[k]? = some (.string (strAt c k)) := by
  rcases k with _|_|_|_|_|_|_|_|k <;> first | omega | rfl
theorem numCells_at (c : Cl) (k : Nat) (hk : k < 5) : (numCells c)[k]? = some (.int .i64 (numAt c k)) := by
  rcases k with _|_|_|_|_|k <;> first | omega | rfl
theorem take_vals (c : Cl) (k : Nat) (hk : k < 16) : strVs ((valsS c).take (k + 1)) = strVs ((valsS c).take k) ++ [strV ((valsS c)[k]'hk)] := by
  rw [List.take_succ_eq_append_getElem (show k < (valsS c).length from hk), ← strVs_snoc]
  rfl
set_option maxHeartbeats 8000000 in
set_option maxRecDepth 100000 in
theorem rvalues_any (c : Cl) (p : P3) (w : World) (hs : ClSmall c) (hC : ClAt w c p) :
    Calls Tryz.prog 44 #[clV c p] w fun e w' => (∃ A cap, e = .returned (.slice A 16 cap) ∧ 16 ≤ cap ∧ Strs w' A (valsS c)) ∧ Below w.heap.size w w' := by
  obtain ⟨i0, hi, hz0, hz1, hz2⟩ := info_parts Tryz.info_s
  have X1 : Hid (ClBox (w.alloc (clO c p)) w.heap.size c p) := Lib.hid (ClBox.new w c p)
  have B2 : Hid (Below w.heap.size w ((w.alloc (clO c p)).alloc (.cells (strCells c) 9))) := Lib.hid (((Below.refl _ _).alloc (Nat.le_refl _) _).alloc (by simp) _)
  have X2 : Hid (ClBox ((w.alloc (clO c p)).alloc (.cells (strCells c) 9)) w.heap.size c p) := Lib.hid (X1.out.below ((Below.refl _ _).alloc (Nat.le_refl _) _))
  have S2 : Hid (∀ k, k < 8 → ((w.alloc (clO c p)).alloc (.cells (strCells c) 9)).cell? ⟨w.heap.size + 1, k, none⟩ = some (.string (strAt c k))) := Lib.hid (fun k hk => by
    have h := heap_alloc_new (w.alloc (clO c p)) (.cells (strCells c) 9)
    rw [show (w.alloc (clO c p)).heap.size = w.heap.size + 1 by simp] at h
    rw [cell_of_row _ _ k _ _ (0, 0) h, strCells_at c k hk])
  have HS := Lib.hid hs
  have HC := Lib.hid hC
  clear hs hC
  obtain ⟨x0, x1, x2, x3, x4, x5, x6, x7, _⟩ := X1.out.cells
  go_enter Tryz.func44, Tryz.ntmps44
  go_wp2_with (first | (refine box_cl rfl _ rfl _ rfl c p rfl ?_) | fail)
  go_loopw [3, 5] (fun v i wr => ∃ k : Nat, k ≤ 8 ∧ i = .int .i64 k ∧ Hid (wr.ownsRow (w.heap.size + 2) 9 1 v k (strVs ((valsS c).take k))) ∧ Hid (ClBox wr w.heap.size c p) ∧ Hid (∀ k, k < 8 → wr.cell? ⟨w.heap.size + 1, k, none⟩ = some (.string (strAt c k))) ∧ Hid (Below w.heap.size w wr) ∧ w.heap.size + 2 ≤ wr.heap.size) (fun _ i _ => 8 - (intOf i).toNat)
  case atStart => exact ⟨0, Nat.zero_le _, rfl, Lib.hid (World.ownsRow_nil _ _ _ _), X2, S2, B2, by simp⟩
  case round =>
    obtain ⟨k, hk, rfl, O1, X3, S3, B3, hz3⟩ := hrel
    clear X1 B2 X2 S2 x0 x1 x2 x3 x4 x5 x6 x7
    by_cases hlt : k < 8
    · have hcell := S3.out k hlt
      have hxz := HS.out.str k
      have HTK : Hid (strVs ((valsS c).take (k + 1)) = strVs ((valsS c).take k) ++ [strV (escS (strAt c k))]) := Lib.hid (by rw [take_vals c k (by omega), vals_str c k hlt])
      obtain ⟨x, HX⟩ : ∃ x, Hid (strAt c k = x) := ⟨_, Lib.hid rfl⟩
      rw [HX.out] at hcell hxz HTK
      obtain ⟨y, HY⟩ : ∃ y, Hid (escS x = y) := ⟨_, Lib.hid rfl⟩
      rw [HY.out] at HTK
      have f1 : (0 : Int) ≤ (k : Int) := by omega
      have f2 : (k : Int) < 8 := by omega
      go_wp2_with fail
      refine (resc_any x _ (by omega)).mono ?_
      rintro e w3 ⟨rfl, hb3⟩
      rw [HY.out]
      have BS3 : Hid (Below (w.heap.size + 2) wr w3) := Lib.hid (hb3.mono hz3)
      have O3 := Lib.hid (own_below O1.out hb3)
      have hz4 : w.heap.size + 2 ≤ w3.heap.size := by have := hb3.size; omega
      clear hb3 hcell
      go_wp2_with (first
        | (at_builtin; refine wpList_append_own _ rfl _ _ 22 rfl (w.heap.size + 2) 9 i0 (.string ByteArray.empty) 1 16 Tryz.underlying22 hi hz0 hz1 hz2 rfl (by decide) _ _ _ rfl (O3.out.alloc _) ⟨w3.heap.size, 0, none⟩ 1 1 [strV y] rfl rfl (cell_one_new _ _ _) (by intro u hu; simp at hu; subst hu; rfl) (by unfold maxLen; omega) (by omega) (by simp; omega) ?_; intro v' w4 hown4 hg4 _)
        | fail)
      have BS4 : Hid (Below (w.heap.size + 2) wr w4) := Lib.hid ((BS3.out.alloc hz4 _).grown hg4 (by simp; omega) (fun q hq => (O3.out.lt q hq).1))
      have O4 : Hid (w4.ownsRow (w.heap.size + 2) 9 1 v' (k + 1) (strVs ((valsS c).take (k + 1)))) := Lib.hid (by show World.ownsRow _ _ _ _ _ _ _; rw [HTK.out]; exact hown4)
      have B4 := Lib.hid (B3.out.trans (BS4.out.mono (by omega)))
      have X4 : Hid (ClBox w4 w.heap.size c p) := Lib.hid ((BS4.out.block w.heap.size (by omega)).trans X3.out)
      have S4 : Hid (∀ k, k < 8 → w4.cell? ⟨w.heap.size + 1, k, none⟩ = some (.string (strAt c k))) := Lib.hid (fun k hk => (BS4.out.cell (p := ⟨w.heap.size + 1, k, none⟩) (by show w.heap.size + 1 < _; omega)).trans (S3.out k hk))
      have hz5 : w.heap.size + 2 ≤ w4.heap.size := by have := BS4.out.size; omega
      clear hown4 hg4
      go_wp2_with fail
      go_roundw
      case rel => exact ⟨k + 1, hlt, by go_num, O4, X4, S4, B4, hz5⟩
      case measure => simp [intOf]; omega
    · obtain rfl : k = 8 := by omega
      clear S3
      obtain ⟨l1, HL1⟩ : ∃ l1, Hid (c.aud = l1) := ⟨_, Lib.hid rfl⟩
      obtain ⟨l2, HL2⟩ : ∃ l2, Hid (c.sco = l2) := ⟨_, Lib.hid rfl⟩
      obtain ⟨l3, HL3⟩ : ∃ l3, Hid (c.act = l3) := ⟨_, Lib.hid rfl⟩
      obtain ⟨A1, HA1⟩ : ∃ A1, Hid (p.a1 = A1) := ⟨_, Lib.hid rfl⟩
      obtain ⟨A2, HA2⟩ : ∃ A2, Hid (p.a2 = A2) := ⟨_, Lib.hid rfl⟩
      obtain ⟨A3, HA3⟩ : ∃ A3, Hid (p.a3 = A3) := ⟨_, Lib.hid rfl⟩
      obtain ⟨n1, HN1⟩ : ∃ n1, Hid (p.c1 = n1) := ⟨_, Lib.hid rfl⟩
      obtain ⟨n2, HN2⟩ : ∃ n2, Hid (p.c2 = n2) := ⟨_, Lib.hid rfl⟩
      obtain ⟨n3, HN3⟩ : ∃ n3, Hid (p.c3 = n3) := ⟨_, Lib.hid rfl⟩
      have HK3 : Hid (∀ W, ClBox W w.heap.size c p → W.cell? ⟨w.heap.size, 8, none⟩ = some (.slice A1 l1.length n1) ∧ W.cell? ⟨w.heap.size, 9, none⟩ = some (.slice A2 l2.length n2) ∧ W.cell? ⟨w.heap.size, 10, none⟩ = some (.slice A3 l3.length n3)) := Lib.hid (fun W h => by
        obtain ⟨_, _, _, _, _, _, _, _, x8, x9, x10, _⟩ := h.cells
        rw [← HL1.out, ← HL2.out, ← HL3.out, ← HA1.out, ← HA2.out, ← HA3.out, ← HN1.out, ← HN2.out, ← HN3.out]
        exact ⟨x8, x9, x10⟩)
      have HST : Hid (∀ W, Below w.heap.size w W → Strs W A1 l1 ∧ Strs W A2 l2 ∧ Strs W A3 l3) := Lib.hid (fun W hb => by
        rw [← HL1.out, ← HL2.out, ← HL3.out, ← HA1.out, ← HA2.out, ← HA3.out]
        exact ⟨(HC.out.below hb).aud, (HC.out.below hb).sco, (HC.out.below hb).act⟩)
      have HZZ : Hid ((∀ s ∈ l1, s.size ≤ 300000) ∧ (∀ s ∈ l2, s.size ≤ 300000) ∧ (∀ s ∈ l3, s.size ≤ 300000)) := Lib.hid (by
        rw [← HL1.out, ← HL2.out, ← HL3.out]
        exact ⟨fun s hs => by have := HS.out.z1 s hs; omega, fun s hs => by have := HS.out.z2 s hs; omega, fun s hs => by have := HS.out.z3 s hs; omega⟩)
      have m1 : l1.length ≤ 16 := by rw [← HL1.out]; exact HS.out.l1
      have m2 : l2.length ≤ 16 := by rw [← HL2.out]; exact HS.out.l2
      have m3 : l3.length ≤ 16 := by rw [← HL3.out]; exact HS.out.l3
      have HTK : Hid (strVs ((valsS c).take 11) = strVs ((valsS c).take 8) ++ [strV (joinS l1), strV (joinS l2), strV (joinS l3)]) := Lib.hid (by rw [← HL1.out, ← HL2.out, ← HL3.out]; rfl)
      obtain ⟨x8, x9, x10⟩ := HK3.out _ X3.out
      go_wp2_with fail
      have X3d : Hid (ClBox wr.drew w.heap.size c p) := Lib.hid (show ClBox wr.drew w.heap.size c p from X3.out)
      go_region_held3 (fun w' => w'.cell? ⟨w.heap.size, 8, none⟩ = some (.slice A1 l1.length n1) ∧ w'.cell? ⟨w.heap.size, 9, none⟩ = some (.slice A2 l2.length n2) ∧ w'.cell? ⟨w.heap.size, 10, none⟩ = some (.slice A3 l3.length n3))
        (first
          | go_keep
          | (exact HK3.out _ X8.out)
          | (exact HK3.out _ X7.out)
          | (exact HK3.out _ X6.out)
          | (exact HK3.out _ X5.out))
        (first
          | (go_at_call_of 79 l1; refine (rjoin_any l1 A1 n1 _ (HST.out _ B3.out.drew).1 (by omega) HZZ.out.1).mono ?_; rintro e w5 ⟨rfl, hb5⟩; have B5 := Lib.hid (bthen B3.out.drew hb5); have X5 : Hid (ClBox w5 w.heap.size c p) := Lib.hid (X3d.out.below hb5); have O5 := Lib.hid (own_below O1.out.drew hb5); have hz5 : w.heap.size + 2 ≤ w5.heap.size := Nat.le_trans hz3 hb5.size; clear hb5)
          | (go_at_call_of 79 l2; refine (rjoin_any l2 A2 n2 _ (HST.out _ B5.out).2.1 (by omega) HZZ.out.2.1).mono ?_; rintro e w6 ⟨rfl, hb6⟩; have B6 := Lib.hid (bthen B5.out hb6); have X6 : Hid (ClBox w6 w.heap.size c p) := Lib.hid (X5.out.below hb6); have O6 := Lib.hid (own_below O5.out hb6); have hz6 : w.heap.size + 2 ≤ w6.heap.size := Nat.le_trans hz5 hb6.size; clear hb6)
          | (go_at_call_of 79 l3; refine (rjoin_any l3 A3 n3 _ (HST.out _ B6.out).2.2 (by omega) HZZ.out.2.2).mono ?_; rintro e w7 ⟨rfl, hb7⟩; have B7 := Lib.hid (bthen B6.out hb7); have X7 : Hid (ClBox w7 w.heap.size c p) := Lib.hid (X6.out.below hb7); have O7 := Lib.hid (own_below O6.out hb7); have hz7 : w.heap.size + 2 ≤ w7.heap.size := Nat.le_trans hz6 hb7.size; clear hb7)
          | (refine step_append_lies _ (by rfl) _ _ _ (by rfl) (w.heap.size + 2) 9 i0 _ 1 16 Tryz.underlying22 hi hz0 hz1 hz2 rfl (by omega) _ 8 (strVs ((valsS c).take 8)) (by rfl) ?_ ⟨w7.heap.size, 0, none⟩ 3 3 [strV (joinS l1), strV (joinS l2), strV (joinS l3)] (by rfl) (by rfl) ?_ ?_ (by omega) (by unfold maxLen; omega) (by omega) ?_ (w7.heap.size + 1) ?_ ?_; exact O7.out.alloc _; exact cell_three_new _ _ _ _ _; (intro u hu; simp at hu; rcases hu with rfl | rfl | rfl <;> rfl); (simp; omega); (simp); (intro gg cap2 w8 ho8 hg8 hat hlt8; have BS8 : Hid (Below (w.heap.size + 2) w7 w8) := Lib.hid (((Below.refl _ w7).alloc hz7 _).grown hg8 (by simp; omega) (fun q hq => (O7.out.lt q hq).1)); have X8 : Hid (ClBox w8 w.heap.size c p) := Lib.hid ((BS8.out.block w.heap.size (by omega)).trans X7.out); have O8 : Hid (w8.ownsRow (w.heap.size + 2) 9 1 (.slice (some ⟨gg, 0, none⟩) 11 cap2) 11 (strVs ((valsS c).take 11))) := Lib.hid (by show World.ownsRow _ _ _ _ _ _ _; rw [HTK.out]; exact ho8); clear ho8 hg8 hat)))
      have BB8 : Hid (Below w.heap.size w w8) := Lib.hid (B7.out.trans (BS8.out.mono (by omega)))
      have hz8 : w.heap.size + 2 ≤ w8.heap.size := by have := BS8.out.size; omega
      clear X3 B3 hz3 O1 hlt X3d B5 X5 O5 hz5 B6 X6 O6 hz6 B7 X7 O7 hz7 x8 x9 x10 BS8 hlt8 HTK m1 m2 m3 HZZ HST HK3
      obtain ⟨_, _, _, _, _, _, _, _, _, _, _, x11, x12, x13, x14, x15⟩ := X8.out.cells
      have S9 : Hid (∀ k, k < 5 → (w8.alloc (.cells (numCells c) 3)).cell? ⟨w8.heap.size, k, none⟩ = some (.int .i64 (numAt c k))) := Lib.hid (fun k hk => by
        rw [cell_of_row _ _ k _ _ (0, 0) (heap_alloc_new w8 (.cells (numCells c) 3)), numCells_at c k hk])
      have BS9 : Hid (Below w8.heap.size w8 (w8.alloc (.cells (numCells c) 3))) := Lib.hid ((Below.refl _ _).alloc (Nat.le_refl _) _)
      go_wp2_with fail
      go_loopw [3, 7] (fun v i wr => ∃ k : Nat, k ≤ 5 ∧ i = .int .i64 k ∧ Hid (wr.ownsRow (w.heap.size + 2) 9 1 v (11 + k) (strVs ((valsS c).take (11 + k)))) ∧ Hid (∀ k, k < 5 → wr.cell? ⟨w8.heap.size, k, none⟩ = some (.int .i64 (numAt c k))) ∧ Hid (Below w.heap.size w wr) ∧ w8.heap.size + 1 ≤ wr.heap.size ∧ v.ownBlock ≠ some w8.heap.size) (fun _ i _ => 5 - (intOf i).toNat)
      case atStart => exact ⟨0, Nat.zero_le _, rfl, Lib.hid (own_below O8.out BS9.out), S9, Lib.hid (bthen BB8.out BS9.out), by simp, by intro h; have := O8.out.lt _ h; omega⟩
      case round =>
        obtain ⟨k, hk, rfl, OA, SA, BA, hza, hne⟩ := hrel
        clear S9 BS9 O8 x11 x12 x13 x14 x15
        by_cases hlt : k < 5
        · have hcell := SA.out k hlt
          have hxz := HS.out.num k hlt
          obtain ⟨hx1, hx2⟩ := hxz
          have HTK : Hid (strVs ((valsS c).take (11 + (k + 1))) = strVs ((valsS c).take (11 + k)) ++ [strV (itoaS (numAt c k))]) := Lib.hid (by rw [show 11 + (k + 1) = 11 + k + 1 by omega, take_vals c (11 + k) (by omega), vals_num c k hlt])
          obtain ⟨x, HX⟩ : ∃ x, Hid (numAt c k = x) := ⟨_, Lib.hid rfl⟩
          rw [HX.out] at hcell hx1 hx2 HTK
          obtain ⟨y, HY⟩ : ∃ y, Hid (itoaS x = y) := ⟨_, Lib.hid rfl⟩
          rw [HY.out] at HTK
          have f1 : (0 : Int) ≤ (k : Int) := by omega
          have f2 : (k : Int) < 5 := by omega
          go_wp2_with fail
          refine (rint_any x _ (by omega) (by omega)).mono ?_
          rintro e wc ⟨rfl, hbc⟩
          rw [HY.out]
          have BSC : Hid (Below wr.heap.size wr wc) := Lib.hid hbc
          have OC := Lib.hid (own_below OA.out hbc)
          have hzc : w8.heap.size + 1 ≤ wc.heap.size := by have := hbc.size; omega
          clear hbc hcell
          go_wp2_with (first
            | (at_builtin; refine wpList_append_own_at _ rfl _ _ 22 rfl (w.heap.size + 2) 9 i0 (.string ByteArray.empty) 1 16 Tryz.underlying22 hi hz0 hz1 hz2 rfl (by decide) _ _ _ rfl (OC.out.alloc _) ⟨wc.heap.size, 0, none⟩ 1 1 [strV y] rfl rfl (cell_one_new _ _ _) (by intro u hu; simp at hu; subst hu; rfl) (by unfold maxLen; omega) (by omega) (by simp; omega) ?_; intro v' wd hownd hgd _ hatd)
            | fail)
          have BSD : Hid (Below (w.heap.size + 2) wc wd) := Lib.hid (((Below.refl _ wc).alloc (by omega) _).grown hgd (by simp; omega) (fun q hq => (OC.out.lt q hq).1))
          have OD : Hid (wd.ownsRow (w.heap.size + 2) 9 1 v' (11 + (k + 1)) (strVs ((valsS c).take (11 + (k + 1))))) := Lib.hid (by show World.ownsRow _ _ _ _ _ _ _; rw [HTK.out]; exact hownd)
          have SD : Hid (∀ k, k < 5 → wd.cell? ⟨w8.heap.size, k, none⟩ = some (.int .i64 (numAt c k))) := Lib.hid (fun k hk => (hgd.cell_far ⟨w8.heap.size, k, none⟩ (by simp; omega) (fun h => hne h.symm)).trans ((((Below.refl wc.heap.size wc).alloc (Nat.le_refl _) _).cell (p := ⟨w8.heap.size, k, none⟩) (by show w8.heap.size < _; omega)).trans ((BSC.out.cell (p := ⟨w8.heap.size, k, none⟩) (by show w8.heap.size < _; omega)).trans (SA.out k hk))))
          have BD : Hid (Below w.heap.size w wd) := Lib.hid ((bthen BA.out BSC.out).trans (BSD.out.mono (by omega)))
          have hzd : w8.heap.size + 1 ≤ wd.heap.size := by have := BSD.out.size; omega
          have hned : v'.ownBlock ≠ some w8.heap.size := by
            intro h
            rcases hatd with h2 | h2
            · exact hne (h2.symm.trans h)
            · rw [h] at h2
              have h3 := Option.some.inj h2
              simp at h3
              omega
          clear hownd hgd hatd
          go_wp2_with fail
          go_roundw
          case rel => exact ⟨_, _, _, _, _, _, _, _, _, _, _, _, _, _, _, _, ⟨k + 1, hlt, by go_num, OD, SD, BD, hzd, hned⟩, rfl⟩
          case measure => simp [intOf]; omega
        · obtain rfl : k = 5 := by omega
          have HA : Hid ((valsS c).take (11 + 5) = valsS c) := Lib.hid (List.take_of_length_le (by rw [valsS_len]; omega))
          have OA2 : Hid (wr.ownsRow (w.heap.size + 2) 9 1 u3 16 (strVs (valsS c))) := Lib.hid (by have h := OA.out; rwa [HA.out] at h)
          obtain ⟨A, cc, hv, hS2, hcc⟩ := own_strs (l := valsS c) OA2.out rfl (fun j hj => strVs_at _ j hj)
          have HR := Lib.hid (And.intro hcc hS2)
          subst hv
          clear hS2 hcc
          go_wp2_with fail
          go_ret
          exact ⟨⟨A, cc, rfl, HR.out.1, HR.out.2⟩, BA.out⟩
end Go.Proofs.YtpmikpijonccjaaGreatDoor

/- The reference's Encode. -/
namespace Go.Proofs.YtpmikpijonccjaaGreatDoor
open Go.RowKit

theorem run_load_cl (b : Nat) (c : Cl) (p : P3) (w : World) (h : ClBox w b c p) : (Instr.loadAt 24 (.pointer (some ⟨b, 0, none⟩))).run Tryz.prog w = .ok (clV c p) w := by
  simp only [Instr.loadAt, Instr.sureAddr, Sem.run_bind, Sem.run_pure, Result.andThen_ok]
  exact run_loadVar_row w b 24 24 (clA c p) (0, 0) _ h Tryz.underlying24 rfl (by rw [clA_size]; exact cl_size)
theorem enc0_add (c : Cl) (k : Nat) (hk : k < 16) (x y : ByteArray) (hx : keysS[k]'hk = x) (hy : (valsS c)[k]'hk = y) : bsOf (enc0 c k) ++ x ++ ⟨#[61]⟩ ++ y ++ ⟨#[10]⟩ = bsOf (enc0 c (k + 1)) := by
  subst hx; subst hy
  rw [enc0_next c k hk]
  apply ByteArray.ext; apply Array.toList_inj.1
  simp [bsOf, lineL]
set_option maxHeartbeats 8000000 in
set_option maxRecDepth 100000 in
theorem rencode_any (c : Cl) (p : P3) (w : World) (hin : ClIn c p) (hC : ClAt w c p) :
    Calls Tryz.prog 17 #[clV c p] w fun e w' => e = .returned (.tuple #[.string (encV c), .int .i64 (encE c)]) ∧ Below w.heap.size w w' := by
  have B1 : Hid (Below w.heap.size w (w.alloc (clO c p))) := Lib.hid ((Below.refl _ _).alloc (Nat.le_refl _) _)
  have X1 : Hid (ClBox (w.alloc (clO c p)) w.heap.size c p) := Lib.hid (ClBox.new w c p)
  have HC := Lib.hid hC
  have HI := Lib.hid hin
  clear hC hin
  obtain ⟨E, HE⟩ : ∃ E, Hid (checkE c = E) := ⟨_, Lib.hid rfl⟩
  obtain ⟨V, HV⟩ : ∃ V, Hid (encV c = V) := ⟨_, Lib.hid rfl⟩
  obtain ⟨G, HG⟩ : ∃ G, Hid (encE c = G) := ⟨_, Lib.hid rfl⟩
  rw [HV.out, HG.out]
  have HB : Hid (E ≠ 0 → G = E ∧ V = ⟨#[]⟩) := Lib.hid (by rw [← HE.out, ← HV.out, ← HG.out]; exact enc_bad)
  have HL : Hid (E = 0 → 4096 < (encS c).size → G = 3 ∧ V = ⟨#[]⟩) := Lib.hid (by rw [← HE.out, ← HV.out, ← HG.out]; exact enc_long)
  have HO : Hid (E = 0 → ¬ 4096 < (encS c).size → G = 0 ∧ V = encS c) := Lib.hid (by rw [← HE.out, ← HV.out, ← HG.out]; exact enc_good)
  go_enter Tryz.func17, Tryz.ntmps17
  go_wp2_with (first | (refine box_cl rfl _ rfl _ rfl c p rfl ?_) | (refine load_cl rfl _ rfl _ rfl w.heap.size rfl c p X1 ?_) | fail)
  refine (rcheck_any c p _ HI.out (HC.out.below B1.out)).mono ?_
  rintro e w2 ⟨rfl, hb2⟩
  rw [HE.out]
  have B2 := Lib.hid (bthen B1.out hb2)
  have X2 := Lib.hid (X1.out.below hb2)
  have hz2 : w.heap.size + 1 ≤ w2.heap.size := by have := hb2.size; simp at this; omega
  clear B1 X1 hb2
  by_cases h0 : E = 0
  · have H0 := Lib.hid h0
    have t0 : (E != 0) = false := by rw [h0]; rfl
    have HSM : Hid (ClSmall c) := Lib.hid (check_small (HE.out.trans h0))
    clear h0
    obtain ⟨x0, x1, x2, x3, x4, x5, x6, x7, x8, x9, x10, x11, x12, x13, x14, x15⟩ := X2.out.cells
    go_wp2_with fail
    go_region_held3 (fun w' => w'.cell? ⟨w.heap.size, 0, none⟩ = some (.string c.kind) ∧ w'.cell? ⟨w.heap.size, 1, none⟩ = some (.string c.issuer) ∧ w'.cell? ⟨w.heap.size, 2, none⟩ = some (.string c.subject) ∧ w'.cell? ⟨w.heap.size, 3, none⟩ = some (.string c.client) ∧ w'.cell? ⟨w.heap.size, 4, none⟩ = some (.string c.tenant) ∧ w'.cell? ⟨w.heap.size, 5, none⟩ = some (.string c.id) ∧ w'.cell? ⟨w.heap.size, 6, none⟩ = some (.string c.session) ∧ w'.cell? ⟨w.heap.size, 7, none⟩ = some (.string c.nonce) ∧ w'.cell? ⟨w.heap.size, 8, none⟩ = some (.slice p.a1 c.aud.length p.c1) ∧ w'.cell? ⟨w.heap.size, 9, none⟩ = some (.slice p.a2 c.sco.length p.c2) ∧ w'.cell? ⟨w.heap.size, 10, none⟩ = some (.slice p.a3 c.act.length p.c3) ∧ w'.cell? ⟨w.heap.size, 11, none⟩ = some (.int .i64 c.issued) ∧ w'.cell? ⟨w.heap.size, 12, none⟩ = some (.int .i64 c.nb) ∧ w'.cell? ⟨w.heap.size, 13, none⟩ = some (.int .i64 c.exp) ∧ w'.cell? ⟨w.heap.size, 14, none⟩ = some (.int .i64 c.auth) ∧ w'.cell? ⟨w.heap.size, 15, none⟩ = some (.int .i64 c.level))
      (first
        | go_keep
        | (exact X4.out.cells)
        | (exact X3.out.cells))
      (first
        | (go_at_call 43; refine (rkeys_any _).mono ?_; rintro e w3 ⟨rfl, hs3, hb3⟩; have B3 := Lib.hid (bthen B2.out.drew hb3); have X3 : Hid (ClBox w3 w.heap.size c p) := Lib.hid (ClBox.below (w := w2.drew) X2.out hb3); have S3 := Lib.hid hs3; clear hs3 hb3)
        | (go_at_call 44; refine (rvalues_any c p _ HSM.out (HC.out.below B3.out)).mono ?_; rintro e w4 ⟨⟨A4, n4, rfl, hn4, hs4⟩, hb4⟩; have B4 := Lib.hid (bthen B3.out hb4); have X4 : Hid (ClBox w4 w.heap.size c p) := Lib.hid (X3.out.below hb4); have S4 := Lib.hid hs4; have S3b := Lib.hid (S3.out.below hb4); clear hs4 hb4))
    clear X2 x0 x1 x2 x3 x4 x5 x6 x7 x8 x9 x10 x11 x12 x13 x14 x15 S3 X3 X4 B3
    have SK : Hid (Strs w4 (some ⟨w2.heap.size, 0, none⟩) keysS) := Lib.hid S3b.out
    clear S3b
    go_wp2_with fail
    go_loopw [5, 8] (fun s i wr => ∃ k : Nat, k ≤ 16 ∧ i = .int .i64 k ∧ s = .string (bsOf (enc0 c k)) ∧ Hid (Below w4.heap.size w4 wr)) (fun _ i _ => 16 - (intOf i).toNat)
    case atStart => exact ⟨0, Nat.zero_le _, rfl, rfl, Lib.hid (Below.refl _ _)⟩
    case round =>
      obtain ⟨k, hk, rfl, rfl, B5⟩ := hrel
      by_cases hlt : k < 16
      · obtain ⟨b, o, hb1, hc1⟩ := (SK.out.below B5.out) k hlt
        injection hb1 with hb1
        injection hb1 with hb1 hb2
        subst hb1; subst hb2
        rw [Nat.zero_add] at hc1
        obtain ⟨b, o, rfl, hc2⟩ := (S4.out.below B5.out) k hlt
        have HAD := Lib.hid (enc0_add c k hlt _ _ rfl rfl)
        have hz1 := enc0_len HSM.out k
        have hz2 := keys_len _ (List.getElem_mem (l := keysS) hlt)
        have hz3 := vals_le HSM.out _ (List.getElem_mem (l := valsS c) hlt)
        obtain ⟨x, HX⟩ : ∃ x, Hid (keysS[k]'hlt = x) := ⟨_, Lib.hid rfl⟩
        obtain ⟨y, HY⟩ : ∃ y, Hid ((valsS c)[k]'hlt = y) := ⟨_, Lib.hid rfl⟩
        rw [HX.out] at hc1 hz2 HAD
        rw [HY.out] at hc2 hz3 HAD
        have hz4 : (bsOf (enc0 c k)).size ≤ 700000 := by rw [bs_len]; exact hz1
        clear hz1
        obtain ⟨s0, HS0⟩ : ∃ s0, Hid (bsOf (enc0 c k) = s0) := ⟨_, Lib.hid rfl⟩
        rw [HS0.out] at hz4 HAD
        rw [HS0.out]
        have f1 : (0 : Int) ≤ (k : Int) := by omega
        have f2 : (k : Int) < 16 := by omega
        go_wp2_with fail
        go_quiet (fail)
        go_wp2_with fail
        go_roundw
        case rel => exact ⟨k + 1, hlt, by go_num, by rw [HAD.out], Lib.hid (below_drewN' B5.out _)⟩
        case measure => simp [intOf]; omega
      · obtain rfl : k = 16 := by omega
        have HEN : Hid (bsOf (enc0 c 16) = encS c) := Lib.hid (enc0_all c)
        rw [HEN.out]
        obtain ⟨S, HS⟩ : ∃ S, Hid (encS c = S) := ⟨_, Lib.hid rfl⟩
        rw [HS.out] at HL HO
        rw [HS.out]
        have B6 := Lib.hid (bthen B4.out B5.out)
        by_cases hl : 4096 < S.size
        · have HR := Lib.hid (HL.out H0.out hl)
          go_wp2_with fail
          go_ret2
          exact ⟨ret_si HR.out.2.symm HR.out.1.symm, B6.out⟩
        · have HR := Lib.hid (HO.out H0.out hl)
          go_wp2_with fail
          go_ret2
          exact ⟨ret_si HR.out.2.symm HR.out.1.symm, B6.out⟩
  · have t0 : (E != 0) = true := by simp [h0]
    have HR := Lib.hid (HB.out h0)
    clear h0
    go_wp2_with fail
    go_ret2
    exact ⟨ret_si HR.out.2.symm HR.out.1.symm, B2.out⟩
end Go.Proofs.YtpmikpijonccjaaGreatDoor

/- For the laws' awake: the sample, variables by value. -/
namespace Go.Proofs.YtpmikpijonccjaaGreatDoor
open Go.RowKit

set_option maxHeartbeats 1000000 in
set_option maxRecDepth 100000 in
theorem sample25_any (w : World) :
    Calls Tryz.prog 29 #[] w fun e w' => (∃ p, e = .returned (clV smp p) ∧ ClAt w' smp p ∧ Caps smp p ∧ w.heap.size < w'.heap.size) ∧ Below w.heap.size w w' := by
  have X1 : Hid (ClBox (((w.alloc (clO cl0 p30)).alloc (.cells #[.string ⟨#[109, 97, 105, 108]⟩, .string ⟨#[102, 105, 108, 101, 115]⟩] 9)).alloc (.cells #[.string ⟨#[109, 97, 105, 108, 46, 114, 101, 97, 100]⟩] 9)) w.heap.size cl0 p30) := Lib.hid ((ClBox.new w cl0 p30).below (((Below.refl _ _).alloc (Nat.le_refl _) _).alloc (by simp) _))
  have B1 : Hid (Below w.heap.size w (((w.alloc (clO cl0 p30)).alloc (.cells #[.string ⟨#[109, 97, 105, 108]⟩, .string ⟨#[102, 105, 108, 101, 115]⟩] 9)).alloc (.cells #[.string ⟨#[109, 97, 105, 108, 46, 114, 101, 97, 100]⟩] 9))) := Lib.hid ((((Below.refl _ _).alloc (Nat.le_refl _) _).alloc (by simp) _).alloc (by simp; omega) _)
  have S1 : Hid (Strs (((w.alloc (clO cl0 p30)).alloc (.cells #[.string ⟨#[109, 97, 105, 108]⟩, .string ⟨#[102, 105, 108, 101, 115]⟩] 9)).alloc (.cells #[.string ⟨#[109, 97, 105, 108, 46, 114, 101, 97, 100]⟩] 9)) (some ⟨w.heap.size + 1, 0, none⟩) smpA) := Lib.hid (by
    have h := strs_row (l := smpA) (heap_alloc_new (w.alloc (clO cl0 p30)) (.cells #[.string ⟨#[109, 97, 105, 108]⟩, .string ⟨#[102, 105, 108, 101, 115]⟩] 9)) (fun j hj => by
      have : j < 2 := hj
      rcases j with _|_|j <;> first | omega | rfl)
    rw [show (w.alloc (clO cl0 p30)).heap.size = w.heap.size + 1 by simp] at h
    exact h.below ((Below.refl _ _).alloc (Nat.le_refl _) _))
  have S2 : Hid (Strs (((w.alloc (clO cl0 p30)).alloc (.cells #[.string ⟨#[109, 97, 105, 108]⟩, .string ⟨#[102, 105, 108, 101, 115]⟩] 9)).alloc (.cells #[.string ⟨#[109, 97, 105, 108, 46, 114, 101, 97, 100]⟩] 9)) (some ⟨w.heap.size + 2, 0, none⟩) smpS) := Lib.hid (by
    have h := strs_row (l := smpS) (heap_alloc_new ((w.alloc (clO cl0 p30)).alloc (.cells #[.string ⟨#[109, 97, 105, 108]⟩, .string ⟨#[102, 105, 108, 101, 115]⟩] 9)) (.cells #[.string ⟨#[109, 97, 105, 108, 46, 114, 101, 97, 100]⟩] 9)) (fun j hj => by
      have : j < 1 := hj
      rcases j with _|j <;> first | omega | rfl)
    rwa [show ((w.alloc (clO cl0 p30)).alloc (.cells #[.string ⟨#[109, 97, 105, 108]⟩, .string ⟨#[102, 105, 108, 101, 115]⟩] 9)).heap.size = w.heap.size + 2 by simp] at h)
  go_enter Tryz.func29, Tryz.ntmps29
  go_wp2_with (first | (refine alloc_cl rfl _ rfl rfl ?_) | (refine store_cl rfl _ rfl _ _ rfl w.heap.size rfl smp ⟨some ⟨w.heap.size + 1, 0, none⟩, 2, some ⟨w.heap.size + 2, 0, none⟩, 1, none, 0⟩ rfl cl0 p30 X1 ?_) | fail)
  refine bodyPost_ret (v := clV smp ⟨some ⟨w.heap.size + 1, 0, none⟩, 2, some ⟨w.heap.size + 2, 0, none⟩, 1, none, 0⟩) (ret_cl Tryz.results29 _ _ w.heap.size smp _ rfl (X1.out.set)) rfl ⟨⟨_, rfl, ⟨?_, ?_, ?_⟩, ⟨by show 2 ≤ 2; omega, by show 1 ≤ 1; omega, by show 0 ≤ 0; omega⟩, by simp; omega⟩, below_setRow B1.out (Nat.le_refl _) _⟩
  · exact S1.out.setRow (fun q hq => by cases hq; show w.heap.size + 1 ≠ _; omega)
  · exact S2.out.setRow (fun q hq => by cases hq; show w.heap.size + 2 ≠ _; omega)
  · exact Strs.nil_ _ _
section
variable {ops : Array Oper} {o : Oper} {a : Act} {w : World} {K : Act → World → Prop} {Q : Exit → Act → World → Prop} {E : Prop}
theorem yields_load_cl {S : World → Prop} (hw : Region.wanted o (yielded ops a.tmps) = true) (x : Operand) (ho : o.op = .load 24 x) (b : Nat) (hx : a.eval x = .pointer (some ⟨b, 0, none⟩)) (c : Cl) (p : P3) (hS : ∀ w, S w → ClBox w b c p) : YieldsIf Tryz.prog ops S o (clV c p) a :=
  .inl ⟨hw, fun w hw' => by
    unfold execOp
    simp only [ho, hx, Sem.run_bind, Sem.run_pure, run_load_cl b c p w (hS w hw'), Result.andThen_ok]⟩
theorem step_alloc_cl (hg : o.guard = none) (ho : o.op = .alloc 24) (h : K (a.put o.dst (.pointer (some ⟨w.heap.size, 0, none⟩))) (w.alloc (clO cl0 p30))) :
    if Region.wanted o (yielded ops a.tmps) = true then Oper.wp Tryz.prog o a w K Q else E := by
  have hw : Region.wanted o (yielded ops a.tmps) = true := by simp [Region.wanted, hg]
  rw [if_pos hw]
  have hr : (Instr.alloc 24 true (.tuple #[])).run Tryz.prog w = .ok (.pointer (some ⟨w.heap.size, 0, none⟩)) (w.alloc (clO cl0 p30)) := by
    have hz : (zeroValue 24).run Tryz.prog w = .ok (clV cl0 p30) w := Tryz.zeroValue24 w
    simp only [Instr.alloc, Sem.run_bind, hz, newVar, newRow, run_newObj_alloc, Sem.run_pure, Result.andThen_ok]
    rfl
  unfold Oper.wp execOp
  simp only [ho, Sem.run_bind, hr, Sem.run_pure, Result.andThen_ok]
  exact h
theorem step_store_cl (hg : o.guard = none) (x y : Operand) (ho : o.op = .store 24 x y) (b : Nat) (hx : a.eval x = .pointer (some ⟨b, 0, none⟩)) (c : Cl) (p : P3) (hy : a.eval y = clV c p) (c0 : Cl) (p0 : P3) (hX : ClBox w b c0 p0) (h : K (a.put o.dst undef) (w.setRow b (clA c p))) :
    if Region.wanted o (yielded ops a.tmps) = true then Oper.wp Tryz.prog o a w K Q else E := by
  have hw : Region.wanted o (yielded ops a.tmps) = true := by simp [Region.wanted, hg]
  rw [if_pos hw]
  exact wp_store_row 24 x y ho b (clA c p) hx hy 24 (clA c0 p0) hX (by rw [clA_size]; exact cl_size) rfl (clA_one c p) h
end
theorem ClBox.other {w : World} {b b2 : Nat} {c : Cl} {p : P3} {cs : Array Value} (h : ClBox w b c p) (hb : b ≠ b2) : ClBox (w.setRow b2 cs) b c p := (setRow_other w b2 b cs hb).trans h
/-- Expectations by value. -/
def exA (x : Ex) : Array Value := #[.string x.kind, .string x.issuer, .string x.aud, .string x.tenant, .int .i64 x.now, .int .i64 x.skew]
def exO0 (x : Ex) : Obj := .cells (exA x) 36 (0, 0)
def ex0 : Ex := ⟨⟨#[]⟩, ⟨#[]⟩, ⟨#[]⟩, ⟨#[]⟩, 0, 0⟩
def ExBox (w : World) (b : Nat) (x : Ex) : Prop := w.heap[b]? = some (exO0 x)
theorem ExBox.below {w w' : World} {b : Nat} {x : Ex} (h : ExBox w b x) (hb : Below w.heap.size w w') : ExBox w' b x := (hb.block b (Array.getElem?_eq_some_iff.1 h).1).trans h
theorem exA_one (x : Ex) : (exA x).all (·.oneCell') = true := by simp [exA, Value.oneCell']
theorem ex_size : (Tryz.prog.info? 36).map (·.size) = some 6 := by kernel_rfl
theorem run_load_ex (b : Nat) (x : Ex) (w : World) (h : ExBox w b x) : (Instr.loadAt 36 (.pointer (some ⟨b, 0, none⟩))).run Tryz.prog w = .ok (exV x) w := by
  simp only [Instr.loadAt, Instr.sureAddr, Sem.run_bind, Sem.run_pure, Result.andThen_ok]
  exact run_loadVar_row w b 36 36 (exA x) (0, 0) _ h Tryz.underlying36 rfl ex_size
section
variable {ops : Array Oper} {rest : List Oper} {o : Oper} {a : Act} {w : World} {K : Act → World → Prop} {Q : Exit → Act → World → Prop} {E : Prop}
theorem load_ex (hg : o.guard = none) (t : TypeId) (ht : t = 36) (x : Operand) (ho : o.op = .load t x) (b : Nat) (hx : a.eval x = .pointer (some ⟨b, 0, none⟩)) (e : Ex) (hX : Hid (ExBox w b e))
    (h : wpList Tryz.prog ops Q rest (a.put o.dst (exV e)) w) : wpList Tryz.prog ops Q (o :: rest) a w := by
  subst ht
  exact wpList_load_row hg 36 x ho b hx 36 (exA e) (0, 0) _ hX.out Tryz.underlying36 rfl ex_size h
theorem run_alloc_ex (w : World) : (Instr.alloc 36 true (.tuple #[])).run Tryz.prog w = .ok (.pointer (some ⟨w.heap.size, 0, none⟩)) (w.alloc (exO0 ex0)) := by
  have hz : (zeroValue 36).run Tryz.prog w = .ok (exV ex0) w := Tryz.zeroValue36 w
  simp only [Instr.alloc, Sem.run_bind, hz, newVar, newRow, run_newObj_alloc, Sem.run_pure, Result.andThen_ok]
  rfl
theorem alloc_ex (hg : o.guard = none) (t : TypeId) (ht : t = 36) (ho : o.op = .alloc t)
    (h : wpList Tryz.prog ops Q rest (a.put o.dst (.pointer (some ⟨w.heap.size, 0, none⟩))) (w.alloc (exO0 ex0))) : wpList Tryz.prog ops Q (o :: rest) a w := by
  subst ht
  refine wpList_plain hg fun K hK => ?_
  unfold Oper.wp execOp
  simp only [ho, Sem.run_bind, run_alloc_ex, Sem.run_pure, Result.andThen_ok]
  exact hK _ _ h
theorem store_ex (hg : o.guard = none) (t : TypeId) (ht : t = 36) (x y : Operand) (ho : o.op = .store t x y) (b : Nat) (hx : a.eval x = .pointer (some ⟨b, 0, none⟩)) (e : Ex) (hy : a.eval y = exV e) (e0 : Ex) (hX : Hid (ExBox w b e0))
    (h : wpList Tryz.prog ops Q rest (a.put o.dst undef) (w.setRow b (exA e))) : wpList Tryz.prog ops Q (o :: rest) a w := by
  subst ht
  exact wpList_store_row hg 36 x y ho b (exA e) hx hy 36 (exA e0) hX.out ex_size rfl (exA_one e) h
theorem yields_load_ex {S : World → Prop} (hw : Region.wanted o (yielded ops a.tmps) = true) (x : Operand) (ho : o.op = .load 36 x) (b : Nat) (hx : a.eval x = .pointer (some ⟨b, 0, none⟩)) (e : Ex) (hS : ∀ w, S w → ExBox w b e) : YieldsIf Tryz.prog ops S o (exV e) a :=
  .inl ⟨hw, fun w hw' => by
    unfold execOp
    simp only [ho, hx, Sem.run_bind, Sem.run_pure, run_load_ex b e w (hS w hw'), Result.andThen_ok]⟩
theorem step_alloc_ex (hg : o.guard = none) (ho : o.op = .alloc 36) (h : K (a.put o.dst (.pointer (some ⟨w.heap.size, 0, none⟩))) (w.alloc (exO0 ex0))) :
    if Region.wanted o (yielded ops a.tmps) = true then Oper.wp Tryz.prog o a w K Q else E := by
  have hw : Region.wanted o (yielded ops a.tmps) = true := by simp [Region.wanted, hg]
  rw [if_pos hw]
  unfold Oper.wp execOp
  simp only [ho, Sem.run_bind, run_alloc_ex, Sem.run_pure, Result.andThen_ok]
  exact h
theorem step_store_ex (hg : o.guard = none) (x y : Operand) (ho : o.op = .store 36 x y) (b : Nat) (hx : a.eval x = .pointer (some ⟨b, 0, none⟩)) (e : Ex) (hy : a.eval y = exV e) (e0 : Ex) (hX : ExBox w b e0) (h : K (a.put o.dst undef) (w.setRow b (exA e))) :
    if Region.wanted o (yielded ops a.tmps) = true then Oper.wp Tryz.prog o a w K Q else E := by
  have hw : Region.wanted o (yielded ops a.tmps) = true := by simp [Region.wanted, hg]
  rw [if_pos hw]
  exact wp_store_row 36 x y ho b (exA e) hx hy 36 (exA e0) hX ex_size rfl (exA_one e) h
end
theorem ExBox.set {w : World} {b : Nat} {e0 e : Ex} (h : ExBox w b e0) : ExBox (w.setRow b (exA e)) b e := setRow_heap w b _ _ _ _ h
theorem ExBox.other {w : World} {b b2 : Nat} {e : Ex} {cs : Array Value} (h : ExBox w b e) (hb : b ≠ b2) : ExBox (w.setRow b2 cs) b e := (setRow_other w b2 b cs hb).trans h
theorem ExBox.new (w : World) (e : Ex) : ExBox (w.alloc (exO0 e)) w.heap.size e := heap_alloc_new w _
theorem dup_ex (W : World) : ExBox (W.alloc (exO0 ex0)) W.heap.size ex0 ∧ ExBox ((W.alloc (exO0 ex0)).alloc (exO0 ex0)) W.heap.size ex0 ∧ ExBox ((W.alloc (exO0 ex0)).alloc (exO0 ex0)) (W.heap.size + 1) ex0 :=
  ⟨ExBox.new _ _, (ExBox.new _ _).below ((Below.refl _ _).alloc (Nat.le_refl _) _), by have h := ExBox.new (W.alloc (exO0 ex0)) ex0; simpa using h⟩
theorem ExBox.put {w : World} {b : Nat} {x x' : Ex} (h : ExBox w b x) (k : Nat) (v : Value) (he : (exA x).setIfInBounds k v = exA x') : ExBox (w.setCell ⟨b, k, none⟩ v) b x' := by
  have := heap_setCell_same w b k _ _ v h
  rw [ExBox, this]
  exact congrArg (fun y => some (Obj.cells y 36 (0, 0))) he
/-- Variables that hold what they hold. -/
def Has (w : World) (l : List (Nat × Obj)) : Prop := ∀ x ∈ l, w.heap[x.1]? = some x.2
theorem Has.below {w w' : World} {l : List (Nat × Obj)} (h : Has w l) (hb : Below w.heap.size w w') : Has w' l := fun x hx => (hb.block x.1 (Array.getElem?_eq_some_iff.1 (h x hx)).1).trans (h x hx)
theorem Has.get {w : World} {l : List (Nat × Obj)} (h : Has w l) (b : Nat) (o : Obj) (hm : (b, o) ∈ l) : w.heap[b]? = some o := h (b, o) hm
theorem Has.row {w : World} {l : List (Nat × Obj)} (h : Has w l) (b : Nat) (cs : Array Value) (hn : ∀ x ∈ l, x.1 ≠ b) : Has (w.setRow b cs) l := fun x hx => (setRow_other w b x.1 cs (hn x hx)).trans (h x hx)
theorem Has.lt {w : World} {l : List (Nat × Obj)} (h : Has w l) : ∀ x ∈ l, x.1 < w.heap.size := fun x hx => (Array.getElem?_eq_some_iff.1 (h x hx)).1
theorem Has.add {w : World} {l : List (Nat × Obj)} (h : Has w l) {b : Nat} {o : Obj} (ho : w.heap[b]? = some o) : Has w ((b, o) :: l) := fun x hx => by
  rcases List.mem_cons.1 hx with rfl | hx
  · exact ho
  · exact h x hx
/-- A new variable that holds claims. -/
theorem Has.cl {w : World} {l : List (Nat × Obj)} (h : Has w l) (c : Cl) (p : P3) : Has ((w.alloc (clO cl0 p30)).setRow w.heap.size (clA c p)) ((w.heap.size, clO c p) :: l) :=
  Has.add ((h.below ((Below.refl _ _).alloc (Nat.le_refl _) _)).row _ _ (fun x hx => by have := h.lt x hx; omega)) ((ClBox.new w cl0 p30).set)
theorem below_cl (w : World) (c : Cl) (p : P3) : Below w.heap.size w ((w.alloc (clO cl0 p30)).setRow w.heap.size (clA c p)) := below_setRow ((Below.refl _ _).alloc (Nat.le_refl _) _) (Nat.le_refl _) _
/-- Two copies of a variable. -/
theorem dup_one (W : World) : ClBox (W.alloc (clO cl0 p30)) W.heap.size cl0 p30 ∧ ClBox ((W.alloc (clO cl0 p30)).alloc (clO cl0 p30)) W.heap.size cl0 p30 ∧ ClBox ((W.alloc (clO cl0 p30)).alloc (clO cl0 p30)) (W.heap.size + 1) cl0 p30 :=
  ⟨ClBox.new _ _ _, (ClBox.new _ _ _).below ((Below.refl _ _).alloc (Nat.le_refl _) _), by have h := ClBox.new (W.alloc (clO cl0 p30)) cl0 p30; simpa using h⟩
/-- Sizes that calls take. -/
def fitsB (c : Cl) : Bool := decide (c.kind.size ≤ 9223372036854775807) && decide (c.issuer.size ≤ 9223372036854775807) && decide (c.subject.size ≤ 9223372036854775807) && decide (c.client.size ≤ 9223372036854775807) && decide (c.tenant.size ≤ 9223372036854775807) && decide (c.id.size ≤ 9223372036854775807) && decide (c.session.size ≤ 9223372036854775807) && decide (c.nonce.size ≤ 9223372036854775807) &&
  decide (c.aud.length ≤ 9223372036854775807) && decide (c.sco.length ≤ 9223372036854775807) && decide (c.act.length ≤ 9223372036854775807) && decide (∀ s ∈ c.aud, s.size ≤ 9223372036854775807) && decide (∀ s ∈ c.sco, s.size ≤ 9223372036854775807) && decide (∀ s ∈ c.act, s.size ≤ 9223372036854775807) &&
  decide (-9223372036854775808 ≤ c.issued ∧ c.issued ≤ 9223372036854775807) && decide (-9223372036854775808 ≤ c.nb ∧ c.nb ≤ 9223372036854775807) && decide (-9223372036854775808 ≤ c.exp ∧ c.exp ≤ 9223372036854775807) && decide (-9223372036854775808 ≤ c.auth ∧ c.auth ≤ 9223372036854775807) && decide (-9223372036854775808 ≤ c.level ∧ c.level ≤ 9223372036854775807)
theorem ClIn.fits {c : Cl} {p : P3} (h : fitsB c = true) (hc : Caps c p) : ClIn c p := by
  simp only [fitsB, Bool.and_eq_true, decide_eq_true_eq] at h
  obtain ⟨⟨⟨⟨⟨⟨⟨⟨⟨⟨⟨⟨⟨⟨⟨⟨⟨⟨h0, h1⟩, h2⟩, h3⟩, h4⟩, h5⟩, h6⟩, h7⟩, m1⟩, m2⟩, m3⟩, z1⟩, z2⟩, z3⟩, i0⟩, i1⟩, i2⟩, i3⟩, i4⟩ := h
  exact ⟨h0, h1, h2, h3, h4, h5, h6, h7, hc.1, hc.2.1, hc.2.2, m1, m2, m3, z1, z2, z3, i0, i1, i2, i3, i4⟩
theorem smp_fits : fitsB smp = true ∧ fitsB (withAud smp []) = true ∧ fitsB (withLev smp 4) = true ∧ fitsB (withSco smp []) = true ∧ fitsB (narC smp [] smpA 20) = true := by decide +kernel
section
variable {ops : Array Oper} {rest : List Oper} {o : Oper} {a : Act} {w : World} {Q : Exit → Act → World → Prop}
/-- Loads under a guard that holds. -/
theorem load_cl_g (hw : Region.wanted o (yielded ops a.tmps) = true) (t : TypeId) (ht : t = 24) (x : Operand) (ho : o.op = .load t x) (b : Nat) (hx : a.eval x = .pointer (some ⟨b, 0, none⟩)) (c : Cl) (p : P3) (hX : Hid (ClBox w b c p))
    (h : wpList Tryz.prog ops Q rest (a.put o.dst (clV c p)) w) : wpList Tryz.prog ops Q (o :: rest) a w := by
  subst ht
  refine wpList_step fun K hK => ?_
  rw [if_pos hw]
  exact wp_load_row 24 x ho b hx 24 (clA c p) (0, 0) _ hX.out Tryz.underlying24 rfl (by rw [clA_size]; exact cl_size) (hK _ _ h)
theorem load_ex_g (hw : Region.wanted o (yielded ops a.tmps) = true) (t : TypeId) (ht : t = 36) (x : Operand) (ho : o.op = .load t x) (b : Nat) (hx : a.eval x = .pointer (some ⟨b, 0, none⟩)) (e : Ex) (hX : Hid (ExBox w b e))
    (h : wpList Tryz.prog ops Q rest (a.put o.dst (exV e)) w) : wpList Tryz.prog ops Q (o :: rest) a w := by
  subst ht
  refine wpList_step fun K hK => ?_
  rw [if_pos hw]
  exact wp_load_row 36 x ho b hx 36 (exA e) (0, 0) _ hX.out Tryz.underlying36 rfl ex_size (hK _ _ h)
end
end Go.Proofs.YtpmikpijonccjaaGreatDoor

