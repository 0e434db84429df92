/- Joined: ClmRLists, ClmRCheck, ClmREncode, TokSign, KeyAcc, ClmAllow, ClmCopy. -/
import Derived.Test.YtiiioefjdebggaaGreatDoorSeg9
import Derived.Test.YtiiioefjdebggaaGreatDoorSeg5
import Derived.Deep.QuietTactic
import Derived.BigQuiet
import Derived.Test.YtiiioefjdebggaaGreatDoorSeg4
import Derived.Test.YtiiioefjdebggaaGreatDoorSeg8
import Derived.Test.YtiiioefjdebggaaGreatDoorSeg7
import Derived.Test.YtiiioefjdebggaaGreatDoorSeg2
import Derived.Test.YtiiioefjdebggaaGreatDoorSeg3
import Derived.Deep.Onto
/- The reference's lists. -/
namespace Go.Proofs.YtiiioefjdebggaaGreatDoor
open Go.RowKit

theorem quiet_l {P : Program} {f : FuncId} {args : Array Value} {w : World} {n : Nat} {v : Value}
    (h : Calls P f args (w.drewN n) fun e w' => e = .returned v ∧ w.drewN n = w') : Calls P f args (w.drewN n) fun e w'' => e = .returned v ∧ ∃ m, w'' = w.drewN m :=
  h.mono fun _ _ ⟨he, hm⟩ => ⟨he, n, hm.symm⟩
theorem has_take (l : List ByteArray) (k : Nat) (hk : k ≤ l.length) (A : Option Addr) (c : Nat) (s : ByteArray) (w : World) (hS : Strs w A l) (hl : l.length ≤ 9223372036854775807) :
    Calls Tryz.prog 100 #[.slice A k c, .string s] w fun e w' => e = .returned (.bool (memB (l.take k) s)) ∧ w = w' := by
  have h := has_any (l.take k) A c s w (fun i hi => by
    have hi' : i < l.length := by have := hi; simp at this; omega
    have := hS i hi'
    simpa using this) (by rw [List.length_take]; omega)
  rwa [show (l.take k).length = k by rw [List.length_take]; omega] at h
theorem drewN_below (w : World) (n : Nat) : Below w.heap.size w (w.drewN n) := below_drewN' (Below.refl _ _) n
set_option maxHeartbeats 16000000 in
set_option maxRecDepth 100000 in
theorem rlists_any (c : Cl) (p : P3) (w : World) (hin : ClIn c p) (hC : ClAt w c p) :
    Calls Tryz.prog 90 #[clV c p] w fun e w' => e = .returned (.int .i64 (listE c)) ∧ Below w.heap.size w w' := by
  obtain ⟨kind, issuer, subject, client, tenant, id, session, nonce, aud, sco, act, issued, nb, exp, auth, level⟩ := c
  obtain ⟨a1, c1, a2, c2, a3, c3⟩ := p
  obtain ⟨_, _, _, _, _, _, _, _, l1, l2, l3, m1, m2, m3, z1, z2, z3, _, _, _, _, _⟩ := hin
  simp only at l1 l2 l3 m1 m2 m3 z1 z2 z3
  have HC := Lib.hid hC
  clear hC
  have HLE : Hid (listE ⟨kind, issuer, subject, client, tenant, id, session, nonce, aud, sco, act, issued, nb, exp, auth, level⟩ = if audE aud = 0 then (if scoE sco = 0 then actE act else scoE sco) else audE aud) := Lib.hid rfl
  have X1 : Hid (ClBox (w.alloc (.cells #[.string kind, .string issuer, .string subject, .string client, .string tenant, .string id, .string session, .string nonce, .slice a1 aud.length c1, .slice a2 sco.length c2, .slice a3 act.length c3, .int .i64 issued, .int .i64 nb, .int .i64 exp, .int .i64 auth, .int .i64 level] 25)) w.heap.size ⟨kind, issuer, subject, client, tenant, id, session, nonce, aud, sco, act, issued, nb, exp, auth, level⟩ ⟨a1, c1, a2, c2, a3, c3⟩) := Lib.hid (ClBox.new w ⟨kind, issuer, subject, client, tenant, id, session, nonce, aud, sco, act, issued, nb, exp, auth, level⟩ ⟨a1, c1, a2, c2, a3, c3⟩)
  have B1 : Hid (Below w.heap.size w (w.alloc (.cells #[.string kind, .string issuer, .string subject, .string client, .string tenant, .string id, .string session, .string nonce, .slice a1 aud.length c1, .slice a2 sco.length c2, .slice a3 act.length c3, .int .i64 issued, .int .i64 nb, .int .i64 exp, .int .i64 auth, .int .i64 level] 25))) := Lib.hid ((Below.refl _ _).alloc (Nat.le_refl _) _)
  obtain ⟨V, HV⟩ : ∃ V, Hid (listE ⟨kind, issuer, subject, client, tenant, id, session, nonce, aud, sco, act, issued, nb, exp, auth, level⟩ = V) := ⟨_, Lib.hid rfl⟩
  rw [HV.out] at HLE
  rw [HV.out]
  show Calls Tryz.prog 90 #[.agg #[.string kind, .string issuer, .string subject, .string client, .string tenant, .string id, .string session, .string nonce, .slice a1 aud.length c1, .slice a2 sco.length c2, .slice a3 act.length c3, .int .i64 issued, .int .i64 nb, .int .i64 exp, .int .i64 auth, .int .i64 level]] w _
  by_cases g0 : aud.length = 0
  · have hG : Hid (V = 6) := Lib.hid (by rw [HLE.out]; simp [audE, g0])
    have t0 : ((aud.length : Int) == 0) = true := by rw [beq_iff_eq]; omega
    clear g0
    go_enter Tryz.func90, Tryz.ntmps90
    go_wp2_with fail
    go_ret
    exact ⟨ret_i hG.out.symm, B1.out⟩
  · have t0 : ((aud.length : Int) == 0) = false := by rw [beq_eq_false_iff_ne]; omega
    by_cases g1 : 16 < aud.length
    · have hG : Hid (V = 3) := Lib.hid (by rw [HLE.out]; simp [audE, g0, g1])
      go_enter Tryz.func90, Tryz.ntmps90
      go_wp2_with fail
      go_ret
      exact ⟨ret_i hG.out.symm, B1.out⟩
    · have HAE : Hid (audE aud = audF [] aud) := Lib.hid (by rw [audE, if_neg g0, if_neg g1])
      go_enter Tryz.func90, Tryz.ntmps90
      go_wp2_with fail
      go_loopw [3] (fun i wr => ∃ k : Nat, k ≤ aud.length ∧ i = .int .i64 k ∧ Hid (AudAt aud k) ∧ Hid (Below w.heap.size w wr) ∧ Hid (ClBox wr w.heap.size ⟨kind, issuer, subject, client, tenant, id, session, nonce, aud, sco, act, issued, nb, exp, auth, level⟩ ⟨a1, c1, a2, c2, a3, c3⟩)) (fun i _ => aud.length - (intOf i).toNat)
      case atStart => exact ⟨0, Nat.zero_le _, rfl, Lib.hid (AudAt.zero aud), B1, X1⟩
      case round =>
        obtain ⟨k, hk, rfl, HAT, HB, HX⟩ := hrel
        clear X1 B1
        obtain ⟨_, _, _, _, _, _, _, _, x8', _⟩ := HX.out.cells
        have x8 : _ = some (Value.slice a1 aud.length c1) := x8'
        clear x8'
        by_cases hlt : k < aud.length
        · obtain ⟨b, o, rfl, hcell⟩ := (HC.out.below HB.out).aud k hlt
          have hwz := z1 _ (List.getElem_mem hlt)
          have HW5 := Lib.hid (HAT.out.word hlt)
          have HW7 := Lib.hid (HAT.out.twice hlt)
          have HWN := Lib.hid (HAT.out.next hlt)
          have HCT := Lib.hid (fun (s : ByteArray) (W : World) (h : Below w.heap.size w W) => has_take aud k hk (some ⟨b, o, none⟩) c1 s W (HC.out.below h).aud (by omega))
          obtain ⟨x, HXX⟩ : ∃ x, Hid (aud[k] = x) := ⟨_, Lib.hid rfl⟩
          rw [HXX.out] at hcell hwz HW5 HW7 HWN
          have f1 : (0 : Int) ≤ (k : Int) := by omega
          have f2 : (k : Int) ≤ (c1 : Int) := by omega
          have f3 : k ≤ c1 := by omega
          have f4 : (k : Int) < (aud.length : Int) := by omega
          by_cases hw : wordS x = false
          · have hG : Hid (V = 5) := Lib.hid (by rw [HLE.out, HAE.out, HW5.out hw]; rfl)
            go_wp2_with fail
            refine (rword_any x _ hwz).mono ?_
            rintro e wsame ⟨rfl, rfl⟩
            rw [hw]
            go_wp2_with fail
            go_ret
            exact ⟨ret_i hG.out.symm, HB.out⟩
          · have hw : wordS x = true := by simpa using hw
            go_wp2_with fail
            refine (rword_any x _ hwz).mono ?_
            rintro e wsame ⟨rfl, rfl⟩
            rw [hw]
            go_wp2_with fail
            obtain ⟨M, HM⟩ : ∃ M, Hid (memB (aud.take k) x = M) := ⟨_, Lib.hid rfl⟩
            have HQ : Hid (∀ n, Calls Tryz.prog 100 #[.slice (some ⟨b, o, none⟩) k c1, .string x] (wr.drewN n) fun e w'' => e = .returned (.bool M) ∧ ∃ m, w'' = wr.drewN m) := Lib.hid (fun n => by rw [← HM.out]; exact quiet_l (HCT.out x _ (below_drewN' HB.out n)))
            go_quiet ((go_at_call 100; exact HQ.out _))
            have HB2 : Hid (Below w.heap.size w (wr.drewN nq)) := Lib.hid (below_drewN' HB.out nq)
            have HX2 := Lib.hid (HX.out.below (drewN_below wr nq))
            rw [HM.out] at HW7 HWN
            clear f1 f2 f3 f4 HQ x8
            by_cases ht : M = true
            · have hG : Hid (V = 7) := Lib.hid (by rw [HLE.out, HAE.out, HW7.out hw ht]; rfl)
              subst ht
              go_wp2_with fail
              go_ret
              exact ⟨ret_i hG.out.symm, HB2.out⟩
            · have HN := Lib.hid (HWN.out hw ht)
              have ht : M = false := by simpa using ht
              subst ht
              go_wp2_with fail
              go_roundw
              case rel => exact ⟨k + 1, hlt, by go_num, HN, HB2, HX2⟩
              case measure => simp [intOf]; omega
        · have hke : k = aud.length := by omega
          have HA0 : Hid (audE aud = 0) := Lib.hid (by rw [HAE.out]; subst hke; exact HAT.out.done)
          have HLE2 : Hid (V = if scoE sco = 0 then actE act else scoE sco) := Lib.hid (by rw [HLE.out, if_pos HA0.out])
          obtain ⟨_, _, _, _, _, _, _, _, _, x9', _⟩ := HX.out.cells
          have x9 : _ = some (Value.slice a2 sco.length c2) := x9'
          clear x9' HAT HAE HLE
          by_cases g2 : 16 < sco.length
          · have hG : Hid (V = 3) := Lib.hid (by rw [HLE2.out]; simp [scoE, g2])
            go_wp2_with fail
            go_ret
            exact ⟨ret_i hG.out.symm, HB.out⟩
          · have HSE : Hid (scoE sco = scoF none sco) := Lib.hid (by rw [scoE, if_neg g2])
            go_wp2_with fail
            go_loopw [4] (fun i wr => ∃ k : Nat, k ≤ sco.length ∧ i = .int .i64 k ∧ Hid (ScoAt sco k) ∧ Hid (Below w.heap.size w wr) ∧ Hid (ClBox wr w.heap.size ⟨kind, issuer, subject, client, tenant, id, session, nonce, aud, sco, act, issued, nb, exp, auth, level⟩ ⟨a1, c1, a2, c2, a3, c3⟩)) (fun i _ => sco.length - (intOf i).toNat)
            case atStart => exact ⟨0, Nat.zero_le _, rfl, Lib.hid (ScoAt.zero sco), HB, HX⟩
            case round =>
              obtain ⟨k, hk, rfl, HST, HB, HX⟩ := hrel
              clear x8 x9
              obtain ⟨_, _, _, _, _, _, _, _, _, x9', x10', _⟩ := HX.out.cells
              have x9 : _ = some (Value.slice a2 sco.length c2) := x9'
              have x10 : _ = some (Value.slice a3 act.length c3) := x10'
              clear x9' x10'
              by_cases hlt : k < sco.length
              · obtain ⟨b, o, rfl, hcell⟩ := (HC.out.below HB.out).sco k hlt
                have hwz := z2 _ (List.getElem_mem hlt)
                have HW5 := Lib.hid (HST.out.word hlt)
                have HFI := Lib.hid (fun (h : k = 0) => show wordS sco[k] = true → ScoAt sco (k + 1) by subst h; exact HST.out.first hlt)
                have HOR := Lib.hid (fun h0 => HST.out.order' h0 hlt)
                have HNX := Lib.hid (fun h0 => HST.out.next' h0 hlt)
                obtain ⟨x, HXX⟩ : ∃ x, Hid (sco[k] = x) := ⟨_, Lib.hid rfl⟩
                rw [HXX.out] at hcell hwz HW5 HFI HOR HNX
                by_cases hw : wordS x = false
                · have hG : Hid (V = 5) := Lib.hid (by rw [HLE2.out, HSE.out, HW5.out hw]; rfl)
                  go_wp2_with fail
                  refine (rword_any x _ hwz).mono ?_
                  rintro e wsame ⟨rfl, rfl⟩
                  rw [hw]
                  go_wp2_with fail
                  go_ret
                  exact ⟨ret_i hG.out.symm, HB.out⟩
                · have hw : wordS x = true := by simpa using hw
                  by_cases hk0 : k = 0
                  · have HN := Lib.hid (HFI.out hk0 hw)
                    subst hk0
                    rw [Nat.add_zero] at hcell
                    go_wp2_with fail
                    refine (rword_any x _ hwz).mono ?_
                    rintro e wsame ⟨rfl, rfl⟩
                    rw [hw]
                    go_wp2_with fail
                    go_quiet (fail)
                    have HB2 : Hid (Below w.heap.size w (wr.drewN nq)) := Lib.hid (below_drewN' HB.out nq)
                    have HX2 := Lib.hid (HX.out.below (drewN_below wr nq))
                    go_wp2_with fail
                    go_roundw
                    case rel => exact ⟨1, hlt, rfl, HN, HB2, HX2⟩
                    case measure => simp [intOf]; omega
                  · have h0 : 0 < k := by omega
                    obtain ⟨b', o', hbo, hprev'⟩ := (HC.out.below HB.out).sco (k - 1) (show k - 1 < sco.length by omega)
                    injection hbo with hbo
                    injection hbo with hb1 hb2
                    subst hb1
                    subst hb2
                    obtain ⟨y, HY⟩ : ∃ y, Hid (sco[k - 1]'(by omega) = y) := ⟨_, Lib.hid rfl⟩
                    have hprev : _ = some (Value.string y) := hprev'.trans (by rw [HY.out])
                    have HOR2 := Lib.hid (HOR.out h0 hw)
                    have HNX2 := Lib.hid (HNX.out h0 hw)
                    rw [HY.out] at HOR2 HNX2
                    clear hprev'
                    have f1 : IntKind.i64.wrap ((k : Int) - 1) = (k : Int) - 1 := IntWalk.i64_in _ (by omega)
                    have f2 : ((k : Int) - 1).toNat = k - 1 := by omega
                    have f3 : (0 : Int) ≤ (k : Int) - 1 := by omega
                    have f4 : (1 : Int) ≤ (k : Int) := by omega
                    have f5 : (k : Int) - 1 < (sco.length : Int) := by omega
                    have f6 : decide ((0 : Int) < (k : Int)) = true := decide_eq_true (by omega)
                    have f7 : (k : Int) < (sco.length : Int) := by omega
                    have f8 : (0 : Int) ≤ (k : Int) := by omega
                    have HLQ := Lib.hid (leq_ord y x)
                    by_cases ho : ordB y x = true
                    · have HN := Lib.hid (HNX2.out ho)
                      have b0 : (Op.bytesLess x.toList y.toList || x.toList == y.toList) = false := by rw [HLQ.out, ho]; rfl
                      clear ho
                      go_wp2_with fail
                      refine (rword_any x _ hwz).mono ?_
                      rintro e wsame ⟨rfl, rfl⟩
                      rw [hw]
                      go_wp2_with fail
                      go_quiet (fail)
                      have HB2 : Hid (Below w.heap.size w (wr.drewN nq)) := Lib.hid (below_drewN' HB.out nq)
                      have HX2 := Lib.hid (HX.out.below (drewN_below wr nq))
                      go_wp2_with fail
                      go_roundw
                      case rel => exact ⟨k + 1, hlt, by go_num, HN, HB2, HX2⟩
                      case measure => simp [intOf]; omega
                    · have ho : ordB y x = false := by simpa using ho
                      have b0 : (Op.bytesLess x.toList y.toList || x.toList == y.toList) = true := by rw [HLQ.out, ho]; rfl
                      have hG : Hid (V = 4) := Lib.hid (by rw [HLE2.out, HSE.out, HOR2.out ho]; rfl)
                      clear ho
                      go_wp2_with fail
                      refine (rword_any x _ hwz).mono ?_
                      rintro e wsame ⟨rfl, rfl⟩
                      rw [hw]
                      go_wp2_with fail
                      go_quiet (fail)
                      have HB2 : Hid (Below w.heap.size w (wr.drewN nq)) := Lib.hid (below_drewN' HB.out nq)
                      go_wp2_with fail
                      go_ret
                      exact ⟨ret_i hG.out.symm, HB2.out⟩
              · have hke : k = sco.length := by omega
                have HS0 : Hid (scoE sco = 0) := Lib.hid (by rw [HSE.out]; subst hke; exact HST.out.done)
                have HLE3 : Hid (V = actE act) := Lib.hid (by rw [HLE2.out, if_pos HS0.out])
                clear HST HSE HLE2
                by_cases g3 : 4 < act.length
                · have hG : Hid (V = 3) := Lib.hid (by rw [HLE3.out]; simp [actE, g3])
                  go_wp2_with fail
                  go_ret
                  exact ⟨ret_i hG.out.symm, HB.out⟩
                · have HCE : Hid (actE act = actF act) := Lib.hid (by rw [actE, if_neg g3])
                  go_wp2_with fail
                  go_loop [5] (fun i => ∃ k : Nat, k ≤ act.length ∧ i = .int .i64 k ∧ Hid (ActAt act k)) (fun i => act.length - (intOf i).toNat)
                  case atStart => exact ⟨0, Nat.zero_le _, rfl, Lib.hid (ActAt.zero act)⟩
                  case round =>
                    obtain ⟨k, hk, rfl, HAC⟩ := hrel
                    by_cases hlt : k < act.length
                    · obtain ⟨b, o, rfl, hcell⟩ := (HC.out.below HB.out).act k hlt
                      have hwz := z3 _ (List.getElem_mem hlt)
                      have HW5 := Lib.hid (HAC.out.bad hlt)
                      have HN1 := Lib.hid (HAC.out.next hlt)
                      obtain ⟨x, HXX⟩ : ∃ x, Hid (act[k] = x) := ⟨_, Lib.hid rfl⟩
                      rw [HXX.out] at hcell hwz HW5 HN1
                      go_wp2_with fail
                      refine (rclean_any x _ hwz).mono ?_
                      rintro e wsame ⟨rfl, rfl⟩
                      by_cases hw : cleanS x = false
                      · have hG : Hid (V = 5) := Lib.hid (by rw [HLE3.out, HCE.out, HW5.out hw])
                        rw [hw]
                        go_wp2_with fail
                        go_ret
                        exact ⟨ret_i hG.out.symm, HB.out⟩
                      · have hw : cleanS x = true := by simpa using hw
                        have HN2 := Lib.hid (HN1.out hw)
                        rw [hw]
                        go_wp2_with fail
                        go_round
                        case rel => exact ⟨k + 1, hlt, by go_num, HN2⟩
                        case measure => simp [intOf]; omega
                    · have hke : k = act.length := by omega
                      have hG : Hid (V = 0) := Lib.hid (by rw [HLE3.out, HCE.out]; subst hke; exact HAC.out.done)
                      go_wp2_with fail
                      go_ret
                      exact ⟨ret_i hG.out.symm, HB.out⟩
end Go.Proofs.YtiiioefjdebggaaGreatDoor

/- The reference's Check. -/
namespace Go.Proofs.YtiiioefjdebggaaGreatDoor
open Go.RowKit

set_option maxHeartbeats 8000000 in
set_option maxRecDepth 100000 in
theorem rcheck_any (c : Cl) (p : P3) (w : World) (hin : ClIn c p) (hC : ClAt w c p) :
    Calls Tryz.prog 45 #[clV c p] w fun e w' => e = .returned (.int .i64 (checkE c)) ∧ Below w.heap.size w w' := by
  have B1 : Hid (Below w.heap.size w (w.alloc (clO c p))) := Lib.hid ((Below.refl _ _).alloc (Nat.le_refl _) _)
  have X1 : Hid (ClBox (w.alloc (clO c p)) w.heap.size c p) := Lib.hid (ClBox.new w c p)
  have HC := Lib.hid hC
  have HI := Lib.hid hin
  clear hC hin
  have HE : Hid (checkE c = if nameB c = true then (if listE c = 0 then (if timeB c = true then (if 0 ≤ c.level ∧ c.level ≤ 3 then 0 else 27) else 2) else listE c) else 5) := Lib.hid rfl
  obtain ⟨V, HV⟩ : ∃ V, Hid (checkE c = V) := ⟨_, Lib.hid rfl⟩
  obtain ⟨N, HN⟩ : ∃ N, Hid (nameB c = N) := ⟨_, Lib.hid rfl⟩
  obtain ⟨L, HL⟩ : ∃ L, Hid (listE c = L) := ⟨_, Lib.hid rfl⟩
  have HT : Hid (timeB c = (validT c.issued && validT c.nb && validT c.exp && validT c.auth && decide (c.issued ≤ c.exp ∧ c.nb ≤ c.exp))) := Lib.hid rfl
  rw [HV.out, HN.out, HL.out, HT.out] at HE
  rw [HV.out]
  clear HT
  go_enter Tryz.func45, Tryz.ntmps45
  go_wp2_with (first | (refine box_cl rfl _ rfl _ rfl c p rfl ?_) | (refine load_cl rfl _ rfl _ rfl w.heap.size rfl c p X1 ?_) | fail)
  refine (rnames_any c p _ HI.out).mono ?_
  rintro e w2 ⟨rfl, hb2⟩
  rw [HN.out]
  have B2 := Lib.hid (bthen B1.out hb2)
  have X2 := Lib.hid (X1.out.below hb2)
  clear hb2 B1 X1
  cases N with
  | false =>
    have hG : Hid (V = 5) := Lib.hid (by rw [HE.out]; rfl)
    go_wp2_with fail
    go_ret
    exact ⟨ret_i hG.out.symm, B2.out⟩
  | true =>
    have HE2 := Lib.hid (HE.out.trans (if_pos rfl))
    clear HE
    go_wp2_with (first | (refine load_cl rfl _ rfl _ rfl w.heap.size rfl c p X2 ?_) | fail)
    refine (rlists_any c p _ HI.out (HC.out.below B2.out)).mono ?_
    rintro e w3 ⟨rfl, hb3⟩
    rw [HL.out]
    have B3 := Lib.hid (bthen B2.out hb3)
    have X3 := Lib.hid (X2.out.below hb3)
    clear hb3 B2 X2
    by_cases hl : L = 0
    · have t0 : (L != 0) = false := by rw [hl]; rfl
      have HE3 := Lib.hid (HE2.out.trans (if_pos hl))
      clear HE2 hl
      obtain ⟨_, _, _, _, _, _, _, _, _, _, _, x11, x12, x13, x14, x15⟩ := X3.out.cells
      obtain ⟨issued, HIS⟩ : ∃ v, Hid (c.issued = v) := ⟨_, Lib.hid rfl⟩
      obtain ⟨nb, HNB⟩ : ∃ v, Hid (c.nb = v) := ⟨_, Lib.hid rfl⟩
      obtain ⟨exp, HEX⟩ : ∃ v, Hid (c.exp = v) := ⟨_, Lib.hid rfl⟩
      obtain ⟨auth, HAU⟩ : ∃ v, Hid (c.auth = v) := ⟨_, Lib.hid rfl⟩
      obtain ⟨level, HLV⟩ : ∃ v, Hid (c.level = v) := ⟨_, Lib.hid rfl⟩
      rw [HIS.out, HNB.out, HEX.out, HAU.out, HLV.out] at HE3
      rw [HIS.out] at x11
      rw [HNB.out] at x12
      rw [HEX.out] at x13
      rw [HAU.out] at x14
      rw [HLV.out] at x15
      by_cases v0 : validT issued = false
      · have hG : Hid (V = 2) := Lib.hid (by rw [HE3.out]; simp [v0])
        go_wp2_with (first | (go_at_call 91; refine (rvalidT_any _ _).mono ?_; rintro e wsame ⟨rfl, rfl⟩) | fail)
        go_ret
        exact ⟨ret_i hG.out.symm, B3.out⟩
      · have v0 : validT issued = true := by simpa using v0
        by_cases v1 : validT nb = false
        · have hG : Hid (V = 2) := Lib.hid (by rw [HE3.out]; simp [v0, v1])
          go_wp2_with (first | (go_at_call 91; refine (rvalidT_any _ _).mono ?_; rintro e wsame ⟨rfl, rfl⟩) | fail)
          go_ret
          exact ⟨ret_i hG.out.symm, B3.out⟩
        · have v1 : validT nb = true := by simpa using v1
          by_cases v2 : validT exp = false
          · have hG : Hid (V = 2) := Lib.hid (by rw [HE3.out]; simp [v0, v1, v2])
            go_wp2_with (first | (go_at_call 91; refine (rvalidT_any _ _).mono ?_; rintro e wsame ⟨rfl, rfl⟩) | fail)
            go_ret
            exact ⟨ret_i hG.out.symm, B3.out⟩
          · have v2 : validT exp = true := by simpa using v2
            by_cases v3 : validT auth = false
            · have hG : Hid (V = 2) := Lib.hid (by rw [HE3.out]; simp [v0, v1, v2, v3])
              go_wp2_with (first | (go_at_call 91; refine (rvalidT_any _ _).mono ?_; rintro e wsame ⟨rfl, rfl⟩) | fail)
              go_ret
              exact ⟨ret_i hG.out.symm, B3.out⟩
            · have v3 : validT auth = true := by simpa using v3
              by_cases o1 : exp < issued
              · have hG : Hid (V = 2) := Lib.hid (by rw [HE3.out]; rw [if_neg (by simp [v0, v1, v2, v3]; omega)])
                go_wp2_with (first | (go_at_call 91; refine (rvalidT_any _ _).mono ?_; rintro e wsame ⟨rfl, rfl⟩) | fail)
                go_ret
                exact ⟨ret_i hG.out.symm, B3.out⟩
              · by_cases o2 : exp < nb
                · have hG : Hid (V = 2) := Lib.hid (by rw [HE3.out]; rw [if_neg (by simp [v0, v1, v2, v3]; omega)])
                  go_wp2_with (first | (go_at_call 91; refine (rvalidT_any _ _).mono ?_; rintro e wsame ⟨rfl, rfl⟩) | fail)
                  go_ret
                  exact ⟨ret_i hG.out.symm, B3.out⟩
                · have HE4 := Lib.hid (HE3.out.trans (if_pos (by simp [v0, v1, v2, v3]; omega)))
                  clear HE3
                  by_cases g5 : level < 0
                  · have hG : Hid (V = 27) := Lib.hid (by rw [HE4.out]; rw [if_neg (by omega)])
                    go_wp2_with (first | (go_at_call 91; refine (rvalidT_any _ _).mono ?_; rintro e wsame ⟨rfl, rfl⟩) | fail)
                    go_ret
                    exact ⟨ret_i hG.out.symm, B3.out⟩
                  · by_cases g6 : 3 < level
                    · have hG : Hid (V = 27) := Lib.hid (by rw [HE4.out]; rw [if_neg (by omega)])
                      go_wp2_with (first | (go_at_call 91; refine (rvalidT_any _ _).mono ?_; rintro e wsame ⟨rfl, rfl⟩) | fail)
                      go_ret
                      exact ⟨ret_i hG.out.symm, B3.out⟩
                    · have hG : Hid (V = 0) := Lib.hid (by rw [HE4.out]; rw [if_pos (by omega)])
                      go_wp2_with (first | (go_at_call 91; refine (rvalidT_any _ _).mono ?_; rintro e wsame ⟨rfl, rfl⟩) | fail)
                      go_ret
                      exact ⟨ret_i hG.out.symm, B3.out⟩
    · have t0 : (L != 0) = true := by simp [hl]
      have hG := Lib.hid (HE2.out.trans (if_neg hl))
      clear hl
      go_wp2_with fail
      go_ret
      exact ⟨ret_i hG.out.symm, B3.out⟩
end Go.Proofs.YtiiioefjdebggaaGreatDoor

/- The reference's Encode. -/
namespace Go.Proofs.YtiiioefjdebggaaGreatDoor
open Go.RowKit

theorem run_load_cl (b : Nat) (c : Cl) (p : P3) (w : World) (h : ClBox w b c p) : (Instr.loadAt 25 (.pointer (some ⟨b, 0, none⟩))).run Tryz.prog w = .ok (clV c p) w := by
  simp only [Instr.loadAt, Instr.sureAddr, Sem.run_bind, Sem.run_pure, Result.andThen_ok]
  exact run_loadVar_row w b 25 25 (clA c p) (0, 0) _ h Tryz.underlying25 rfl (by rw [clA_size]; exact cl_size)
theorem enc0_add (c : Cl) (k : Nat) (hk : k < 16) (x y : ByteArray) (hx : keysS[k]'hk = x) (hy : (valsS c)[k]'hk = y) : bsOf (enc0 c k) ++ x ++ ⟨#[61]⟩ ++ y ++ ⟨#[10]⟩ = bsOf (enc0 c (k + 1)) := by
  subst hx; subst hy
  rw [enc0_next c k hk]
  apply ByteArray.ext; apply Array.toList_inj.1
  simp [bsOf, lineL]
set_option maxHeartbeats 8000000 in
set_option maxRecDepth 100000 in
theorem rencode_any (c : Cl) (p : P3) (w : World) (hin : ClIn c p) (hC : ClAt w c p) :
    Calls Tryz.prog 44 #[clV c p] w fun e w' => e = .returned (.tuple #[.string (encV c), .int .i64 (encE c)]) ∧ Below w.heap.size w w' := by
  have B1 : Hid (Below w.heap.size w (w.alloc (clO c p))) := Lib.hid ((Below.refl _ _).alloc (Nat.le_refl _) _)
  have X1 : Hid (ClBox (w.alloc (clO c p)) w.heap.size c p) := Lib.hid (ClBox.new w c p)
  have HC := Lib.hid hC
  have HI := Lib.hid hin
  clear hC hin
  obtain ⟨E, HE⟩ : ∃ E, Hid (checkE c = E) := ⟨_, Lib.hid rfl⟩
  obtain ⟨V, HV⟩ : ∃ V, Hid (encV c = V) := ⟨_, Lib.hid rfl⟩
  obtain ⟨G, HG⟩ : ∃ G, Hid (encE c = G) := ⟨_, Lib.hid rfl⟩
  rw [HV.out, HG.out]
  have HB : Hid (E ≠ 0 → G = E ∧ V = ⟨#[]⟩) := Lib.hid (by rw [← HE.out, ← HV.out, ← HG.out]; exact enc_bad)
  have HL : Hid (E = 0 → 4096 < (encS c).size → G = 3 ∧ V = ⟨#[]⟩) := Lib.hid (by rw [← HE.out, ← HV.out, ← HG.out]; exact enc_long)
  have HO : Hid (E = 0 → ¬ 4096 < (encS c).size → G = 0 ∧ V = encS c) := Lib.hid (by rw [← HE.out, ← HV.out, ← HG.out]; exact enc_good)
  go_enter Tryz.func44, Tryz.ntmps44
  go_wp2_with (first | (refine box_cl rfl _ rfl _ rfl c p rfl ?_) | (refine load_cl rfl _ rfl _ rfl w.heap.size rfl c p X1 ?_) | fail)
  refine (rcheck_any c p _ HI.out (HC.out.below B1.out)).mono ?_
  rintro e w2 ⟨rfl, hb2⟩
  rw [HE.out]
  have B2 := Lib.hid (bthen B1.out hb2)
  have X2 := Lib.hid (X1.out.below hb2)
  have hz2 : w.heap.size + 1 ≤ w2.heap.size := by have := hb2.size; simp at this; omega
  clear B1 X1 hb2
  by_cases h0 : E = 0
  · have H0 := Lib.hid h0
    have t0 : (E != 0) = false := by rw [h0]; rfl
    have HSM : Hid (ClSmall c) := Lib.hid (check_small (HE.out.trans h0))
    clear h0
    obtain ⟨x0, x1, x2, x3, x4, x5, x6, x7, x8, x9, x10, x11, x12, x13, x14, x15⟩ := X2.out.cells
    go_wp2_with fail
    go_region_held3 (fun w' => w'.cell? ⟨w.heap.size, 0, none⟩ = some (.string c.kind) ∧ w'.cell? ⟨w.heap.size, 1, none⟩ = some (.string c.issuer) ∧ w'.cell? ⟨w.heap.size, 2, none⟩ = some (.string c.subject) ∧ w'.cell? ⟨w.heap.size, 3, none⟩ = some (.string c.client) ∧ w'.cell? ⟨w.heap.size, 4, none⟩ = some (.string c.tenant) ∧ w'.cell? ⟨w.heap.size, 5, none⟩ = some (.string c.id) ∧ w'.cell? ⟨w.heap.size, 6, none⟩ = some (.string c.session) ∧ w'.cell? ⟨w.heap.size, 7, none⟩ = some (.string c.nonce) ∧ w'.cell? ⟨w.heap.size, 8, none⟩ = some (.slice p.a1 c.aud.length p.c1) ∧ w'.cell? ⟨w.heap.size, 9, none⟩ = some (.slice p.a2 c.sco.length p.c2) ∧ w'.cell? ⟨w.heap.size, 10, none⟩ = some (.slice p.a3 c.act.length p.c3) ∧ w'.cell? ⟨w.heap.size, 11, none⟩ = some (.int .i64 c.issued) ∧ w'.cell? ⟨w.heap.size, 12, none⟩ = some (.int .i64 c.nb) ∧ w'.cell? ⟨w.heap.size, 13, none⟩ = some (.int .i64 c.exp) ∧ w'.cell? ⟨w.heap.size, 14, none⟩ = some (.int .i64 c.auth) ∧ w'.cell? ⟨w.heap.size, 15, none⟩ = some (.int .i64 c.level))
      (first
        | go_keep
        | (exact X4.out.cells)
        | (exact X3.out.cells))
      (first
        | (go_at_call 87; refine (rkeys_any _).mono ?_; rintro e w3 ⟨rfl, hs3, hb3⟩; have B3 := Lib.hid (bthen B2.out.drew hb3); have X3 : Hid (ClBox w3 w.heap.size c p) := Lib.hid (ClBox.below (w := w2.drew) X2.out hb3); have S3 := Lib.hid hs3; clear hs3 hb3)
        | (go_at_call 88; refine (rvalues_any c p _ HSM.out (HC.out.below B3.out)).mono ?_; rintro e w4 ⟨⟨A4, n4, rfl, hn4, hs4⟩, hb4⟩; have B4 := Lib.hid (bthen B3.out hb4); have X4 : Hid (ClBox w4 w.heap.size c p) := Lib.hid (X3.out.below hb4); have S4 := Lib.hid hs4; have S3b := Lib.hid (S3.out.below hb4); clear hs4 hb4))
    clear X2 x0 x1 x2 x3 x4 x5 x6 x7 x8 x9 x10 x11 x12 x13 x14 x15 S3 X3 X4 B3
    have SK : Hid (Strs w4 (some ⟨w2.heap.size, 0, none⟩) keysS) := Lib.hid S3b.out
    clear S3b
    go_wp2_with fail
    go_loopw [5, 8] (fun s i wr => ∃ k : Nat, k ≤ 16 ∧ i = .int .i64 k ∧ s = .string (bsOf (enc0 c k)) ∧ Hid (Below w4.heap.size w4 wr)) (fun _ i _ => 16 - (intOf i).toNat)
    case atStart => exact ⟨0, Nat.zero_le _, rfl, rfl, Lib.hid (Below.refl _ _)⟩
    case round =>
      obtain ⟨k, hk, rfl, rfl, B5⟩ := hrel
      by_cases hlt : k < 16
      · obtain ⟨b, o, hb1, hc1⟩ := (SK.out.below B5.out) k hlt
        injection hb1 with hb1
        injection hb1 with hb1 hb2
        subst hb1; subst hb2
        rw [Nat.zero_add] at hc1
        obtain ⟨b, o, rfl, hc2⟩ := (S4.out.below B5.out) k hlt
        have HAD := Lib.hid (enc0_add c k hlt _ _ rfl rfl)
        have hz1 := enc0_len HSM.out k
        have hz2 := keys_len _ (List.getElem_mem (l := keysS) hlt)
        have hz3 := vals_le HSM.out _ (List.getElem_mem (l := valsS c) hlt)
        obtain ⟨x, HX⟩ : ∃ x, Hid (keysS[k]'hlt = x) := ⟨_, Lib.hid rfl⟩
        obtain ⟨y, HY⟩ : ∃ y, Hid ((valsS c)[k]'hlt = y) := ⟨_, Lib.hid rfl⟩
        rw [HX.out] at hc1 hz2 HAD
        rw [HY.out] at hc2 hz3 HAD
        have hz4 : (bsOf (enc0 c k)).size ≤ 700000 := by rw [bs_len]; exact hz1
        clear hz1
        obtain ⟨s0, HS0⟩ : ∃ s0, Hid (bsOf (enc0 c k) = s0) := ⟨_, Lib.hid rfl⟩
        rw [HS0.out] at hz4 HAD
        rw [HS0.out]
        have f1 : (0 : Int) ≤ (k : Int) := by omega
        have f2 : (k : Int) < 16 := by omega
        go_wp2_with fail
        go_quiet (fail)
        go_wp2_with fail
        go_roundw
        case rel => exact ⟨k + 1, hlt, by go_num, by rw [HAD.out], Lib.hid (below_drewN' B5.out _)⟩
        case measure => simp [intOf]; omega
      · obtain rfl : k = 16 := by omega
        have HEN : Hid (bsOf (enc0 c 16) = encS c) := Lib.hid (enc0_all c)
        rw [HEN.out]
        obtain ⟨S, HS⟩ : ∃ S, Hid (encS c = S) := ⟨_, Lib.hid rfl⟩
        rw [HS.out] at HL HO
        rw [HS.out]
        have B6 := Lib.hid (bthen B4.out B5.out)
        by_cases hl : 4096 < S.size
        · have HR := Lib.hid (HL.out H0.out hl)
          go_wp2_with fail
          go_ret2
          exact ⟨ret_si HR.out.2.symm HR.out.1.symm, B6.out⟩
        · have HR := Lib.hid (HO.out H0.out hl)
          go_wp2_with fail
          go_ret2
          exact ⟨ret_si HR.out.2.symm HR.out.1.symm, B6.out⟩
  · have t0 : (E != 0) = true := by simp [h0]
    have HR := Lib.hid (HB.out h0)
    clear h0
    go_wp2_with fail
    go_ret2
    exact ⟨ret_si HR.out.2.symm HR.out.1.symm, B2.out⟩
end Go.Proofs.YtiiioefjdebggaaGreatDoor

/- token.signature, head and Sign; their references. -/
namespace Go.Proofs.YtiiioefjdebggaaGreatDoor
open Go.RowKit

theorem mac2_any (key s : ByteArray) (w : World) (hd : DigOk w) (hp : PowOk w) (hk : key.size ≤ 140737488355327) (hs : s.size ≤ 140737488355327) :
    Calls Tryz.prog 25 #[.string key, .string s] w fun e w' => e = .returned (.string (macS key s)) ∧ Below w.heap.size w w' := by
  have h1 := itoaS_size key.size (by omega) (by omega)
  have HI := Lib.hid (itoa_any key.size w (by omega) (by omega) hp)
  have ht := textS_size (macP key ++ s)
  have hz : ∀ t : ByteArray, t.size ≤ 140737488355327 → (itoaS key.size ++ ⟨#[58]⟩ ++ key ++ t).size ≤ 9223372036854775807 := fun t h => by
    rw [ByteArray.size_append, ByteArray.size_append, ByteArray.size_append]
    have : (⟨#[58]⟩ : ByteArray).size = 1 := rfl
    omega
  have HZ1 : Hid ((itoaS key.size ++ ⟨#[58]⟩ ++ key ++ s).size ≤ 9223372036854775807) := Lib.hid (hz s hs)
  have HZ2 : Hid ((itoaS key.size ++ ⟨#[58]⟩ ++ key ++ textS (macP key ++ s)).size ≤ 9223372036854775807) := Lib.hid (hz _ (by omega))
  have ht' : (textS (itoaS key.size ++ ⟨#[58]⟩ ++ key ++ s)).size ≤ 16 := Nat.le_of_eq ht
  clear ht hz
  go_enter Tryz.func25, Tryz.ntmps25
  go_wp2_with fail
  refine HI.out.mono ?_
  rintro e w1 ⟨rfl, hb1⟩
  go_wp2_with fail
  refine (text_any _ _ (hd.below hb1) HZ1.out).mono ?_
  rintro e w2 ⟨rfl, hb2⟩
  go_wp2_with fail
  refine (text_any _ _ ((hd.below hb1).below hb2) HZ2.out).mono ?_
  rintro e w3 ⟨rfl, hb3⟩
  go_wp2_with fail
  go_ret
  exact ⟨rfl, bthen (bthen hb1 hb2) hb3⟩
theorem signature_any (k : Ky) (h : ByteArray) (w : World) (hd : DigOk w) (hp : PowOk w) (hk : k.sec.size ≤ 140737488355327) (hs : h.size ≤ 140737488355327) :
    Calls Tryz.prog 42 #[kyV k, .string h] w fun e w' => e = .returned (.string (sgnS k.sec h)) ∧ Below w.heap.size w w' := by
  have X1 : Hid (KyBox (w.alloc (kyO k)) w.heap.size k) := Lib.hid (KyBox.new w k)
  have B1 : Hid (Below w.heap.size w (w.alloc (kyO k))) := Lib.hid ((Below.refl _ _).alloc (Nat.le_refl _) _)
  have q1 := X1.out.cells.2.1
  have HM := Lib.hid (mac2_any k.sec h (w.alloc (kyO k)) (hd.below B1.out) (hp.below B1.out) hk hs)
  have HT := Lib.hid (sgnS_eq k.sec h)
  have HD := Lib.hid (hd.below B1.out)
  have HMZ : Hid ((macS k.sec h).size = 16) := Lib.hid (by rw [macS]; exact textS_size _)
  obtain ⟨S, HS⟩ : ∃ S, Hid (sgnS k.sec h = S) := ⟨_, Lib.hid rfl⟩
  obtain ⟨M, HMM⟩ : ∃ M, Hid (macS k.sec h = M) := ⟨_, Lib.hid rfl⟩
  rw [HS.out, HMM.out] at HT
  rw [HMM.out] at HM HMZ
  rw [HS.out]
  have hmz := HMZ.out
  clear hd hp
  go_enter Tryz.func42, Tryz.ntmps42
  go_upto_region 1 with (first | (refine box_ky rfl _ rfl _ rfl k rfl ?_) | fail)
  go_wp2_with fail
  refine (Calls.mono HM.out ?_)
  rintro e w2 ⟨rfl, hb2⟩
  have B2 := Lib.hid (bthen B1.out hb2)
  have HD2 := Lib.hid (HD.out.below hb2)
  clear hb2 HM
  go_wp2_with fail
  refine (text_any M _ HD2.out (by omega)).mono ?_
  rintro e w3 ⟨rfl, hb3⟩
  have B3 := Lib.hid (bthen B2.out hb3)
  clear hb3
  go_wp2_with fail
  go_ret
  exact ⟨ret_str HT.out.symm, B3.out⟩
theorem rsignature_any (sec h : ByteArray) (w : World) (hk : sec.size ≤ 1000000) (hs : h.size ≤ 1000000) :
    Calls Tryz.prog 48 #[.string sec, .string h] w fun e w' => e = .returned (.string (sgnS sec h)) ∧ w = w' := by
  have HT := Lib.hid (sgnS_eq sec h)
  have HMZ : Hid ((macS sec h).size = 16) := Lib.hid (by rw [macS]; exact textS_size _)
  have HM := Lib.hid (rmac_any sec h w hk hs)
  obtain ⟨S, HS⟩ : ∃ S, Hid (sgnS sec h = S) := ⟨_, Lib.hid rfl⟩
  obtain ⟨M, HMM⟩ : ∃ M, Hid (macS sec h = M) := ⟨_, Lib.hid rfl⟩
  rw [HS.out, HMM.out] at HT
  rw [HMM.out] at HM HMZ
  rw [HS.out]
  have hmz := HMZ.out
  go_enter Tryz.func48, Tryz.ntmps48
  go_wp2_with fail
  refine (Calls.mono HM.out ?_)
  rintro e w2 ⟨rfl, rfl⟩
  clear HM
  go_wp2_with fail
  refine (rtext_any M _ (by omega)).mono ?_
  rintro e w3 ⟨rfl, rfl⟩
  go_wp2_with fail
  go_ret
  exact ⟨ret_str HT.out.symm, rfl⟩
theorem headS_size (id text : ByteArray) : (headS id text).size = id.size + 1 + (4 * text.size + 2) / 3 := by
  rw [headS, ByteArray.size_append, ByteArray.size_append, b64S_size]; rfl
theorem tok_size {s id text sum : ByteArray} (h : TokIs s id text sum) : s.size = (headS id text).size + 1 + sum.size := by
  rw [h.2.2, headS_size, ByteArray.size_append, ByteArray.size_append, ByteArray.size_append, ByteArray.size_append, b64S_size]
  have : dotS.size = 1 := rfl
  omega
theorem head_any (id text : ByteArray) (w : World) (hi : id.size ≤ 140737488355327) (ht : (4 * text.size + 2) / 3 ≤ 140737488355327) :
    Calls Tryz.prog 41 #[.string id, .string text] w fun e w' => e = .returned (.string (headS id text)) ∧ Below w.heap.size w w' := by
  have HZ := Lib.hid (b64S_size text)
  have HH : Hid (headS id text = id ++ ⟨#[46]⟩ ++ b64S text) := Lib.hid rfl
  have HB := Lib.hid (base64_big text w ht)
  have h1 : (id ++ ⟨#[46]⟩).size = id.size + 1 := by rw [ByteArray.size_append]; rfl
  obtain ⟨B, HBB⟩ : ∃ B, Hid (b64S text = B) := ⟨_, Lib.hid rfl⟩
  rw [HBB.out] at HZ HH HB
  have hbz := HZ.out
  go_enter Tryz.func41, Tryz.ntmps41
  go_wp2_with fail
  refine (Calls.mono HB.out ?_)
  rintro e w2 ⟨rfl, hb2⟩
  clear HB
  go_wp2_with fail
  go_ret
  exact ⟨ret_str HH.out.symm, hb2⟩
end Go.Proofs.YtiiioefjdebggaaGreatDoor

/- keys.Accepting and its reference. -/
namespace Go.Proofs.YtiiioefjdebggaaGreatDoor
open Go.RowKit

set_option maxHeartbeats 4000000 in
set_option maxRecDepth 100000 in
theorem accepting_any (l : List Ky) (A : Option Addr) (c : Nat) (id : ByteArray) (t s : Int) (w : World) (hS : KysAt w A l) (hl : l.length ≤ 9223372036854775807) :
    Calls Tryz.prog 23 #[.slice A l.length c, .string id, .int .i64 t, .int .i64 s] w fun e w' => e = .returned (.tuple #[kyV (accV l id t s), .int .i64 (accE l id t s)]) ∧ Below w.heap.size w w' := by
  have R1 : Hid (KyBox (w.alloc (kyO ky0)) w.heap.size ky0) := Lib.hid (KyBox.new w ky0)
  have B1 : Hid (Below w.heap.size w (w.alloc (kyO ky0))) := Lib.hid ((Below.refl _ _).alloc (Nat.le_refl _) _)
  have HF := Lib.hid (find_any l A c id (w.alloc (kyO ky0)) (hS.below B1.out) hl)
  have HS := Lib.hid hS
  rcases findI_cases l id with ⟨hf, _, hn⟩ | ⟨i, hi, hf, _, hn, _⟩
  · rw [hf] at HF
    have HV := Lib.hid (accK_none hn t s)
    clear hf hn hS
    go_enter Tryz.func23, Tryz.ntmps23
    go_upto_region 1 with (first | (refine alloc_ky rfl _ rfl rfl ?_) | fail)
    go_wp2_with fail
    refine (Calls.mono HF.out ?_)
    rintro e w2 ⟨rfl, hb2⟩
    have B2 := Lib.hid (bthen B1.out hb2)
    have R2 := Lib.hid (R1.out.below hb2)
    clear hb2 HF R1 B1
    go_wp2_with (first
      | (refine build_ky rfl _ rfl rfl ?_)
      | (refine store_ky rfl _ rfl _ _ rfl w.heap.size rfl ky0 rfl ky0 R2 ?_)
      | fail)
    refine bodyPost_ret (v := .tuple #[kyV ky0, .int .i64 26]) (res_ky Tryz.results23 _ _ w.heap.size ky0 _ rfl R2.out.set rfl) rfl ⟨by rw [HV.out.1, HV.out.2], below_setRow B2.out (Nat.le_refl _) _⟩
  · rw [hf] at HF
    have HV := Lib.hid (accK_some hn t s)
    obtain ⟨b, o, rfl, hat⟩ := hS.at i hi
    have HAT := Lib.hid hat
    obtain ⟨y, HY⟩ : ∃ y, Hid (l[i] = y) := ⟨_, Lib.hid rfl⟩
    rw [HY.out] at HAT HV
    obtain ⟨E, HE⟩ : ∃ E, Hid (windowE y.af y.au t s = E) := ⟨_, Lib.hid rfl⟩
    rw [HE.out] at HV
    have i0 : (0 : Int) ≤ (i : Int) := by omega
    have i1 : (i : Int) < (l.length : Int) := by omega
    have i2 : ¬ (i : Int) < 0 := by omega
    clear hf hn hS hat
    go_enter Tryz.func23, Tryz.ntmps23
    go_upto_region 1 with (first | (refine alloc_ky rfl _ rfl rfl ?_) | fail)
    go_wp2_with fail
    refine (Calls.mono HF.out ?_)
    rintro e w2 ⟨rfl, hb2⟩
    have B2 := Lib.hid (bthen B1.out hb2)
    have R2 := Lib.hid (R1.out.below hb2)
    have HA2 := Lib.hid (HAT.out.below (bthen B1.out hb2))
    clear hb2 HF R1 B1 HAT
    have c4 := HA2.out.c4
    have c5 := HA2.out.c5
    have e45 : o + i * 6 + 5 = o + i * 6 + 4 + 1 := rfl
    go_wp2_with fail
    refine (ccheck_any y.af y.au t s _).mono ?_
    rintro e w3 ⟨rfl, hb3⟩
    rw [HE.out]
    have B3 := Lib.hid (bthen B2.out hb3)
    have R3 := Lib.hid (R2.out.below hb3)
    have HA3 := Lib.hid (HA2.out.below hb3)
    clear hb3 B2 R2 HA2 c4 c5 e45
    by_cases h0 : E = 0
    · have hEb : (E == 0) = true := by rw [h0]; rfl
      have HV2 : Hid (accV l id t s = y) := Lib.hid (by rw [HV.out.2, if_pos h0])
      subst h0
      go_wp2_with (first
        | (refine load_kyAt rfl _ rfl _ rfl b (o + i * 6) rfl y HA3 ?_)
        | (refine store_ky rfl _ rfl _ _ rfl w.heap.size rfl y rfl ky0 R3 ?_)
        | fail)
      refine bodyPost_ret (v := .tuple #[kyV y, .int .i64 0]) (res_ky Tryz.results23 _ _ w.heap.size y _ rfl R3.out.set rfl) rfl ⟨by rw [HV.out.1, HV2.out], below_setRow B3.out (Nat.le_refl _) _⟩
    · have hEb : (E == 0) = false := by simpa using h0
      have HV2 : Hid (accV l id t s = ky0) := Lib.hid (by rw [HV.out.2, if_neg h0])
      clear h0
      go_wp2_with (first
        | (refine build_ky rfl _ rfl rfl ?_)
        | (refine store_ky rfl _ rfl _ _ rfl w.heap.size rfl ky0 rfl ky0 R3 ?_)
        | fail)
      refine bodyPost_ret (v := .tuple #[kyV ky0, .int .i64 E]) (res_ky Tryz.results23 _ _ w.heap.size ky0 _ rfl R3.out.set rfl) rfl ⟨by rw [HV.out.1, HV2.out], below_setRow B3.out (Nat.le_refl _) _⟩
end Go.Proofs.YtiiioefjdebggaaGreatDoor

/- claims.Allow and its reference. -/
namespace Go.Proofs.YtiiioefjdebggaaGreatDoor
open Go.RowKit

def exV (x : Ex) : Value := .agg #[.string x.kind, .string x.issuer, .string x.aud, .string x.tenant, .int .i64 x.now, .int .i64 x.skew]
set_option maxHeartbeats 4000000 in
set_option maxRecDepth 100000 in
theorem allow_any (c : Cl) (p : P3) (x : Ex) (w : World) (hl : c.aud.length ≤ 9223372036854775807) (hC : ClAt w c p) :
    Calls Tryz.prog 26 #[clV c p, exV x] w fun e w' => e = .returned (.int .i64 (allowE c x)) ∧ Below w.heap.size w w' := by
  obtain ⟨xk, xi, xa, xt, xn, xs⟩ := x
  have B1 : Hid (Below w.heap.size w ((w.alloc (clO c p)).alloc (.cells #[.string xk, .string xi, .string xa, .string xt, .int .i64 xn, .int .i64 xs] 34))) := Lib.hid (((Below.refl _ _).alloc (Nat.le_refl _) _).alloc (by simp) _)
  have X1 : Hid (ClBox ((w.alloc (clO c p)).alloc (.cells #[.string xk, .string xi, .string xa, .string xt, .int .i64 xn, .int .i64 xs] 34)) w.heap.size c p) := Lib.hid ((ClBox.new w c p).below ((Below.refl _ _).alloc (Nat.le_refl _) _))
  have HSA := Lib.hid ((hC.below B1.out).aud)
  obtain ⟨x0, x1, _, _, x4, _, _, _, x8, _, _, _, x12, x13, _, _⟩ := X1.out.cells
  have HA : Hid (allowE c ⟨xk, xi, xa, xt, xn, xs⟩ = if c.kind = xk then (if c.issuer = xi then (if c.tenant = xt then (if memB c.aud xa = true then windowE c.nb c.exp xn xs else 15) else 32) else 16) else 2) := Lib.hid rfl
  obtain ⟨V, HV⟩ : ∃ V, Hid (allowE c ⟨xk, xi, xa, xt, xn, xs⟩ = V) := ⟨_, Lib.hid rfl⟩
  rw [HV.out] at HA
  rw [HV.out]
  obtain ⟨ck, HCK⟩ : ∃ ck, Hid (c.kind = ck) := ⟨_, Lib.hid rfl⟩
  obtain ⟨ci, HCI⟩ : ∃ ci, Hid (c.issuer = ci) := ⟨_, Lib.hid rfl⟩
  obtain ⟨ct, HCT⟩ : ∃ ct, Hid (c.tenant = ct) := ⟨_, Lib.hid rfl⟩
  obtain ⟨cl, HCL⟩ : ∃ cl, Hid (c.aud = cl) := ⟨_, Lib.hid rfl⟩
  obtain ⟨cA, HCA⟩ : ∃ cA, Hid (p.a1 = cA) := ⟨_, Lib.hid rfl⟩
  obtain ⟨cc, HCC⟩ : ∃ cc, Hid (p.c1 = cc) := ⟨_, Lib.hid rfl⟩
  obtain ⟨cn, HCN⟩ : ∃ cn, Hid (c.nb = cn) := ⟨_, Lib.hid rfl⟩
  obtain ⟨ce, HCE⟩ : ∃ ce, Hid (c.exp = ce) := ⟨_, Lib.hid rfl⟩
  rw [HCK.out, HCI.out, HCT.out, HCL.out, HCN.out, HCE.out] at HA
  rw [HCK.out] at x0
  rw [HCI.out] at x1
  rw [HCT.out] at x4
  rw [HCL.out, HCA.out, HCC.out] at x8
  rw [HCL.out, HCA.out] at HSA
  rw [HCN.out] at x12
  rw [HCE.out] at x13
  rw [HCL.out] at hl
  clear hC
  show Calls Tryz.prog 26 #[clV c p, .agg #[.string xk, .string xi, .string xa, .string xt, .int .i64 xn, .int .i64 xs]] w _
  have heq : ∀ a : ByteArray, (a.toList == a.toList) = true := fun a => by simp
  by_cases k0 : ck = xk
  · have hv := HA.out
    rw [if_pos k0] at hv
    have e0 : (ck.toList == xk.toList) = true := by rw [k0]; simp
    have e0' : (ck.toList != xk.toList) = false := by rw [k0]; simp
    clear k0
    by_cases k1 : ci = xi
    · rw [if_pos k1] at hv
      have e1 : (ci.toList == xi.toList) = true := by rw [k1]; simp
      have e1' : (ci.toList != xi.toList) = false := by rw [k1]; simp
      clear k1
      by_cases k2 : ct = xt
      · rw [if_pos k2] at hv
        have e2 : (ct.toList == xt.toList) = true := by rw [k2]; simp
        have e2' : (ct.toList != xt.toList) = false := by rw [k2]; simp
        clear k2
        obtain ⟨M, HM⟩ : ∃ M, Hid (memB cl xa = M) := ⟨_, Lib.hid rfl⟩
        rw [HM.out] at hv
        have HR := Lib.hid hv
        clear hv HA heq
        go_enter Tryz.func26, Tryz.ntmps26
        go_wp2_with (first | (refine box_cl rfl _ rfl _ rfl c p rfl ?_) | fail)
        have HMM : Hid (memB (cl.take cl.length) xa = M) := Lib.hid (by rw [List.take_length]; exact HM.out)
        refine (contains_any cl cl.length (Nat.le_refl _) cA cc xa _ HSA.out hl).mono ?_
        rintro e wsame ⟨rfl, rfl⟩
        rw [HMM.out]
        cases M with
        | true =>
          have HR2 : Hid (V = windowE cn ce xn xs) := Lib.hid (by rw [HR.out]; rfl)
          go_wp2_with fail
          refine (ccheck_any cn ce xn xs _).mono ?_
          rintro e w2 ⟨rfl, hb2⟩
          have B2 := Lib.hid (bthen B1.out hb2)
          clear hb2
          go_wp2_with fail
          go_ret
          exact ⟨ret_i HR2.out.symm, B2.out⟩
        | false =>
          have HR2 : Hid (V = 15) := Lib.hid (by rw [HR.out]; rfl)
          go_wp2_with fail
          go_ret
          exact ⟨ret_i HR2.out.symm, B1.out⟩
      · rw [if_neg k2] at hv
        have HR := Lib.hid hv
        have e2 := str_ne k2
        have e2' : (ct.toList != xt.toList) = true := by rw [bne, e2]; rfl
        clear hv HA k2 heq
        go_enter Tryz.func26, Tryz.ntmps26
        go_wp2_with (first | (refine box_cl rfl _ rfl _ rfl c p rfl ?_) | fail)
        go_ret
        exact ⟨ret_i HR.out.symm, B1.out⟩
    · rw [if_neg k1] at hv
      have HR := Lib.hid hv
      have e1 := str_ne k1
      have e1' : (ci.toList != xi.toList) = true := by rw [bne, e1]; rfl
      clear hv HA k1 heq
      go_enter Tryz.func26, Tryz.ntmps26
      go_wp2_with (first | (refine box_cl rfl _ rfl _ rfl c p rfl ?_) | fail)
      go_ret
      exact ⟨ret_i HR.out.symm, B1.out⟩
  · have hv := HA.out
    rw [if_neg k0] at hv
    have HR := Lib.hid hv
    have e0 := str_ne k0
    have e0' : (ck.toList != xk.toList) = true := by rw [bne, e0]; rfl
    clear hv HA k0 heq
    go_enter Tryz.func26, Tryz.ntmps26
    go_wp2_with (first | (refine box_cl rfl _ rfl _ rfl c p rfl ?_) | fail)
    go_ret
    exact ⟨ret_i HR.out.symm, B1.out⟩
set_option maxHeartbeats 4000000 in
set_option maxRecDepth 100000 in
theorem rallow_any (c : Cl) (p : P3) (x : Ex) (w : World) (hl : c.aud.length ≤ 9223372036854775807) (hC : ClAt w c p) :
    Calls Tryz.prog 52 #[clV c p, exV x] w fun e w' => e = .returned (.int .i64 (allowE c x)) ∧ Below w.heap.size w w' := by
  obtain ⟨xk, xi, xa, xt, xn, xs⟩ := x
  have B1 : Hid (Below w.heap.size w ((w.alloc (clO c p)).alloc (.cells #[.string xk, .string xi, .string xa, .string xt, .int .i64 xn, .int .i64 xs] 34))) := Lib.hid (((Below.refl _ _).alloc (Nat.le_refl _) _).alloc (by simp) _)
  have X1 : Hid (ClBox ((w.alloc (clO c p)).alloc (.cells #[.string xk, .string xi, .string xa, .string xt, .int .i64 xn, .int .i64 xs] 34)) w.heap.size c p) := Lib.hid ((ClBox.new w c p).below ((Below.refl _ _).alloc (Nat.le_refl _) _))
  have HSA := Lib.hid ((hC.below B1.out).aud)
  obtain ⟨x0, x1, _, _, x4, _, _, _, x8, _, _, _, x12, x13, _, _⟩ := X1.out.cells
  have HA : Hid (allowE c ⟨xk, xi, xa, xt, xn, xs⟩ = if c.kind = xk then (if c.issuer = xi then (if c.tenant = xt then (if memB c.aud xa = true then windowE c.nb c.exp xn xs else 15) else 32) else 16) else 2) := Lib.hid rfl
  obtain ⟨V, HV⟩ : ∃ V, Hid (allowE c ⟨xk, xi, xa, xt, xn, xs⟩ = V) := ⟨_, Lib.hid rfl⟩
  rw [HV.out] at HA
  rw [HV.out]
  obtain ⟨ck, HCK⟩ : ∃ ck, Hid (c.kind = ck) := ⟨_, Lib.hid rfl⟩
  obtain ⟨ci, HCI⟩ : ∃ ci, Hid (c.issuer = ci) := ⟨_, Lib.hid rfl⟩
  obtain ⟨ct, HCT⟩ : ∃ ct, Hid (c.tenant = ct) := ⟨_, Lib.hid rfl⟩
  obtain ⟨cl, HCL⟩ : ∃ cl, Hid (c.aud = cl) := ⟨_, Lib.hid rfl⟩
  obtain ⟨cA, HCA⟩ : ∃ cA, Hid (p.a1 = cA) := ⟨_, Lib.hid rfl⟩
  obtain ⟨cc, HCC⟩ : ∃ cc, Hid (p.c1 = cc) := ⟨_, Lib.hid rfl⟩
  obtain ⟨cn, HCN⟩ : ∃ cn, Hid (c.nb = cn) := ⟨_, Lib.hid rfl⟩
  obtain ⟨ce, HCE⟩ : ∃ ce, Hid (c.exp = ce) := ⟨_, Lib.hid rfl⟩
  rw [HCK.out, HCI.out, HCT.out, HCL.out, HCN.out, HCE.out] at HA
  rw [HCK.out] at x0
  rw [HCI.out] at x1
  rw [HCT.out] at x4
  rw [HCL.out, HCA.out, HCC.out] at x8
  rw [HCL.out, HCA.out] at HSA
  rw [HCN.out] at x12
  rw [HCE.out] at x13
  rw [HCL.out] at hl
  clear hC
  show Calls Tryz.prog 52 #[clV c p, .agg #[.string xk, .string xi, .string xa, .string xt, .int .i64 xn, .int .i64 xs]] w _
  have heq : ∀ a : ByteArray, (a.toList == a.toList) = true := fun a => by simp
  by_cases k0 : ck = xk
  · have hv := HA.out
    rw [if_pos k0] at hv
    have e0 : (ck.toList == xk.toList) = true := by rw [k0]; simp
    have e0' : (ck.toList != xk.toList) = false := by rw [k0]; simp
    clear k0
    by_cases k1 : ci = xi
    · rw [if_pos k1] at hv
      have e1 : (ci.toList == xi.toList) = true := by rw [k1]; simp
      have e1' : (ci.toList != xi.toList) = false := by rw [k1]; simp
      clear k1
      by_cases k2 : ct = xt
      · rw [if_pos k2] at hv
        have e2 : (ct.toList == xt.toList) = true := by rw [k2]; simp
        have e2' : (ct.toList != xt.toList) = false := by rw [k2]; simp
        clear k2
        obtain ⟨M, HM⟩ : ∃ M, Hid (memB cl xa = M) := ⟨_, Lib.hid rfl⟩
        rw [HM.out] at hv
        have HR := Lib.hid hv
        clear hv HA heq
        go_enter Tryz.func52, Tryz.ntmps52
        go_wp2_with (first | (refine box_cl rfl _ rfl _ rfl c p rfl ?_) | fail)
        have HMM := HM
        refine (has_any cl cA cc xa _ HSA.out hl).mono ?_
        rintro e wsame ⟨rfl, rfl⟩
        rw [HMM.out]
        cases M with
        | true =>
          have HR2 : Hid (V = windowE cn ce xn xs) := Lib.hid (by rw [HR.out]; rfl)
          go_wp2_with fail
          refine (rccheck_any cn ce xn xs _).mono ?_
          rintro e w2 ⟨rfl, hb2⟩
          have B2 := Lib.hid (bthen B1.out hb2)
          clear hb2
          go_wp2_with fail
          go_ret
          exact ⟨ret_i HR2.out.symm, B2.out⟩
        | false =>
          have HR2 : Hid (V = 15) := Lib.hid (by rw [HR.out]; rfl)
          go_wp2_with fail
          go_ret
          exact ⟨ret_i HR2.out.symm, B1.out⟩
      · rw [if_neg k2] at hv
        have HR := Lib.hid hv
        have e2 := str_ne k2
        have e2' : (ct.toList != xt.toList) = true := by rw [bne, e2]; rfl
        clear hv HA k2 heq
        go_enter Tryz.func52, Tryz.ntmps52
        go_wp2_with (first | (refine box_cl rfl _ rfl _ rfl c p rfl ?_) | fail)
        go_ret
        exact ⟨ret_i HR.out.symm, B1.out⟩
    · rw [if_neg k1] at hv
      have HR := Lib.hid hv
      have e1 := str_ne k1
      have e1' : (ci.toList != xi.toList) = true := by rw [bne, e1]; rfl
      clear hv HA k1 heq
      go_enter Tryz.func52, Tryz.ntmps52
      go_wp2_with (first | (refine box_cl rfl _ rfl _ rfl c p rfl ?_) | fail)
      go_ret
      exact ⟨ret_i HR.out.symm, B1.out⟩
  · have hv := HA.out
    rw [if_neg k0] at hv
    have HR := Lib.hid hv
    have e0 := str_ne k0
    have e0' : (ck.toList != xk.toList) = true := by rw [bne, e0]; rfl
    clear hv HA k0 heq
    go_enter Tryz.func52, Tryz.ntmps52
    go_wp2_with (first | (refine box_cl rfl _ rfl _ rfl c p rfl ?_) | fail)
    go_ret
    exact ⟨ret_i HR.out.symm, B1.out⟩
end Go.Proofs.YtiiioefjdebggaaGreatDoor

/- claims.copied. -/
namespace Go.Proofs.YtiiioefjdebggaaGreatDoor
open Go.RowKit

/-- A slice that the call owns and that holds strings. -/
def OwnS (w : World) (B : Nat) (A : Option Addr) (l : List ByteArray) (c : Nat) : Prop := w.ownsRow B 9 1 (.slice A l.length c) l.length (strVs l)
theorem OwnS.strs {w : World} {B : Nat} {A : Option Addr} {l : List ByteArray} {c : Nat} (h : OwnS w B A l c) : Strs w A l ∧ l.length ≤ c ∧ ∀ q, A = some q → B ≤ q.block := by
  rcases h.2 with ⟨e, h0⟩ | ⟨g, cap, cur, e, hg, _, hnc, _⟩
  · have : l = [] := List.eq_nil_of_length_eq_zero h0
    subst this
    injection e with e1 e2 e3
    subst e1
    exact ⟨Strs.nil_ _ _, by show (0 : Nat) ≤ c; omega, fun q hq => by cases hq⟩
  · injection e with e1 e2 e3
    subst e1; subst e3
    exact ⟨Strs.own h rfl (strVs_at _), hnc, fun q hq => by injection hq with hq; subst hq; exact hg⟩
theorem OwnS.top {w : World} {B : Nat} {A : Option Addr} {l : List ByteArray} {c : Nat} (h : OwnS w B A l c) : ∀ q, A = some q → q.block < w.heap.size := by
  intro q hq
  subst hq
  rcases h.2 with ⟨e, _⟩ | ⟨g, cap, cur, e, hg, hh, _⟩
  · cases e
  · injection e with e1 e2 e3
    injection e1 with e1
    subst e1
    exact (Array.getElem?_eq_some_iff.1 hh).1
theorem OwnS.below {w w' : World} {B : Nat} {A : Option Addr} {l : List ByteArray} {c : Nat} (h : OwnS w B A l c) (hb : Below w.heap.size w w') : OwnS w' B A l c := own_below h hb
theorem OwnS.form {w : World} {B n : Nat} {v : Value} {l : List ByteArray} (h : w.ownsRow B 9 1 v n (strVs l)) (hn : n = l.length) : ∃ A c, v = .slice A l.length c ∧ OwnS w B A l c := by
  subst hn
  rcases h.2 with ⟨rfl, h0⟩ | ⟨g, cap, cur, rfl, hg, _, hnc, _⟩
  · have e : l = [] := List.eq_nil_of_length_eq_zero h0
    subst e
    exact ⟨none, 0, rfl, h⟩
  · exact ⟨_, cap, rfl, h⟩
/-- The first k lists are cloned. -/
structure Cloned (w : World) (B : Nat) (c : Cl) (p : P3) (k : Nat) : Prop where
  o1 : 0 < k → OwnS w B p.a1 c.aud p.c1
  o2 : 1 < k → OwnS w B p.a2 c.sco p.c2
  o3 : 2 < k → OwnS w B p.a3 c.act p.c3
  ap : 2 < k → ∀ q r, p.a3 = some r → (p.a1 = some q ∨ p.a2 = some q) → q.block < r.block
theorem Cloned.zero (w : World) (B : Nat) (c : Cl) (p : P3) : Cloned w B c p 0 := ⟨fun h => absurd h (by omega), fun h => absurd h (by omega), fun h => absurd h (by omega), fun h => absurd h (by omega)⟩
theorem Cloned.below {w w' : World} {B : Nat} {c : Cl} {p : P3} {k : Nat} (h : Cloned w B c p k) (hb : Below w.heap.size w w') : Cloned w' B c p k := ⟨fun i => (h.o1 i).below hb, fun i => (h.o2 i).below hb, fun i => (h.o3 i).below hb, h.ap⟩
theorem Cloned.next {w : World} {B : Nat} {c : Cl} {p : P3} {k : Nat} {A : Option Addr} {n : Nat} (h : Cloned w B c p k) (hk : k < 3) (ho : OwnS w B A (lstAt c k) n) (M : Nat) (hM : ∀ r, A = some r → M ≤ r.block) (hold : k = 2 → ∀ q, (p.a1 = some q ∨ p.a2 = some q) → q.block < M) : Cloned w B c (setP p k A n) (k + 1) := by
  obtain ⟨h1, h2, h3, _⟩ := h
  rcases k with _|_|_|k
  · exact ⟨fun _ => ho, fun i => absurd i (by omega), fun i => absurd i (by omega), fun i => absurd i (by omega)⟩
  · exact ⟨fun _ => h1 (by omega), fun _ => ho, fun i => absurd i (by omega), fun i => absurd i (by omega)⟩
  · exact ⟨fun _ => h1 (by omega), fun _ => h2 (by omega), fun _ => ho, fun _ q r hr hq => Nat.lt_of_lt_of_le (hold rfl q hq) (hM r hr)⟩
  · omega
theorem OwnS.setCell {w : World} {B : Nat} {A : Option Addr} {l : List ByteArray} {c : Nat} (h : OwnS w B A l c) {b i : Nat} {v : Value} (hb : b < B) : OwnS (w.setCell ⟨b, i, none⟩ v) B A l c := ownsRow_setCell_below h hb _
theorem OwnS.setRow {w : World} {B : Nat} {A : Option Addr} {l : List ByteArray} {c : Nat} (h : OwnS w B A l c) {b : Nat} {cs : Array Value} (hb : b < B) : OwnS (w.setRow b cs) B A l c := by
  refine ⟨h.1, ?_⟩
  rcases h.2 with hn | ⟨g, cap, cur, e, hg, hh, rest⟩
  · exact .inl hn
  · exact .inr ⟨g, cap, cur, e, hg, (setRow_other w b g cs (by omega)).trans hh, rest⟩
theorem Cloned.put {w : World} {B : Nat} {c : Cl} {p : P3} {k : Nat} (h : Cloned w B c p k) {b i : Nat} {v : Value} (hb : b < B) : Cloned (w.setCell ⟨b, i, none⟩ v) B c p k := ⟨fun i => (h.o1 i).setCell hb, fun i => (h.o2 i).setCell hb, fun i => (h.o3 i).setCell hb, h.ap⟩
theorem ClBox.lset {w : World} {b : Nat} {c : Cl} {p : P3} {k : Nat} {A : Option Addr} {n : Nat} (h : ClBox w b c p) (hk : k < 3) : ClBox (w.setCell ⟨b, 8 + k, none⟩ (.slice A (lstAt c k).length n)) b c (setP p k A n) := by
  rcases k with _|_|_|k
  all_goals first | omega | exact h.put _ _ rfl
/-- Small lists. -/
def SmallL (c : Cl) : Prop := c.aud.length ≤ 1000000 ∧ c.sco.length ≤ 1000000 ∧ c.act.length ≤ 1000000
theorem SmallL.lst {c : Cl} (h : SmallL c) (k : Nat) : (lstAt c k).length ≤ 1000000 := by
  obtain ⟨h1, h2, h3⟩ := h
  rcases k with _|_|_|k
  · exact h1
  · exact h2
  · exact h3
  · show (0 : Nat) ≤ _; omega
/-- The lists of the original that are still to be cloned. -/
def Left (p0 p : P3) (k : Nat) : Prop := ∀ j, k ≤ j → j < 3 → adrAt p j = adrAt p0 j
theorem Left.next {p0 p : P3} {k : Nat} {A : Option Addr} {n : Nat} (h : Left p0 p k) (hk : k < 3) : Left p0 (setP p k A n) (k + 1) := by
  intro j h1 h2
  have h3 := h j (by omega) h2
  rw [← h3]
  rcases k with _|_|_|k
  · rcases j with _|_|_|j <;> first | omega | rfl
  · rcases j with _|_|_|j <;> first | omega | rfl
  · omega
  · omega
end Go.Proofs.YtiiioefjdebggaaGreatDoor

