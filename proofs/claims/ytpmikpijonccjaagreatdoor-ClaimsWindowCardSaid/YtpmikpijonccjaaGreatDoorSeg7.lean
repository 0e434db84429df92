/- Joined: ClmRNames, ClmRLists, ClmRCheck, ClmRet, ClmAct. -/
import Derived.Test.YtpmikpijonccjaaGreatDoorSeg5
import Derived.Test.YtpmikpijonccjaaGreatDoorSeg6
import Derived.Deep.QuietTactic
import Derived.BigQuiet
import Derived.Test.YtpmikpijonccjaaGreatDoorSeg4
import Derived.Laws.OwnMore
/- The reference's names. -/
namespace Go.Proofs.YtpmikpijonccjaaGreatDoor
open Go.RowKit

set_option maxHeartbeats 8000000 in
set_option maxRecDepth 100000 in
theorem rnames_any (c : Cl) (p : P3) (w : World) (hin : ClIn c p) :
    Calls Tryz.prog 34 #[clV c p] w fun e w' => e = .returned (.bool (nameB c)) ∧ Below w.heap.size w w' := by
  obtain ⟨kind, issuer, subject, client, tenant, id, session, nonce, aud, sco, act, issued, nb, exp, auth, level⟩ := c
  obtain ⟨a1, c1, a2, c2, a3, c3⟩ := p
  obtain ⟨s0, s1, s2, s3, s4, s5, s6, s7, _, _, _, _, _, _, _, _, _, _, _, _, _, _⟩ := hin
  simp only at s0 s1 s2 s3 s4 s5 s6 s7
  have HNV : Hid (nameB ⟨kind, issuer, subject, client, tenant, id, session, nonce, aud, sco, act, issued, nb, exp, auth, level⟩ = (wordS kind && wordS client && wordS tenant && wordS id && optB session && optB nonce && cleanS issuer && cleanS subject)) := Lib.hid rfl
  have B1 : Hid (Below w.heap.size w (w.alloc (.cells #[.string kind, .string issuer, .string subject, .string client, .string tenant, .string id, .string session, .string nonce, .slice a1 aud.length c1, .slice a2 sco.length c2, .slice a3 act.length c3, .int .i64 issued, .int .i64 nb, .int .i64 exp, .int .i64 auth, .int .i64 level] 24))) := Lib.hid ((Below.refl _ _).alloc (Nat.le_refl _) _)
  obtain ⟨V, HV⟩ : ∃ V, Hid (nameB ⟨kind, issuer, subject, client, tenant, id, session, nonce, aud, sco, act, issued, nb, exp, auth, level⟩ = V) := ⟨_, Lib.hid rfl⟩
  rw [HV.out] at HNV
  rw [HV.out]
  show Calls Tryz.prog 34 #[.agg #[.string kind, .string issuer, .string subject, .string client, .string tenant, .string id, .string session, .string nonce, .slice a1 aud.length c1, .slice a2 sco.length c2, .slice a3 act.length c3, .int .i64 issued, .int .i64 nb, .int .i64 exp, .int .i64 auth, .int .i64 level]] w _
  by_cases k0 : wordS kind = false
  · have hG : Hid (V = false) := Lib.hid (by rw [HNV.out]; simp [k0])
    go_enter Tryz.func34, Tryz.ntmps34
    go_wp2_with (first | (go_at_call 71; refine (rword_any _ _ (by assumption)).mono ?_; rintro e wsame ⟨rfl, rfl⟩) | (go_at_call 63; refine (rclean_any _ _ (by assumption)).mono ?_; rintro e wsame ⟨rfl, rfl⟩) | fail)
    go_ret
    exact ⟨ret_b hG.out.symm, B1.out⟩
  · have k0 : wordS kind = true := by simpa using k0
    by_cases k1 : wordS client = false
    · have hG : Hid (V = false) := Lib.hid (by rw [HNV.out]; simp [k0, k1])
      go_enter Tryz.func34, Tryz.ntmps34
      go_wp2_with (first | (go_at_call 71; refine (rword_any _ _ (by assumption)).mono ?_; rintro e wsame ⟨rfl, rfl⟩) | (go_at_call 63; refine (rclean_any _ _ (by assumption)).mono ?_; rintro e wsame ⟨rfl, rfl⟩) | fail)
      go_ret
      exact ⟨ret_b hG.out.symm, B1.out⟩
    · have k1 : wordS client = true := by simpa using k1
      by_cases k2 : wordS tenant = false
      · have hG : Hid (V = false) := Lib.hid (by rw [HNV.out]; simp [k0, k1, k2])
        go_enter Tryz.func34, Tryz.ntmps34
        go_wp2_with (first | (go_at_call 71; refine (rword_any _ _ (by assumption)).mono ?_; rintro e wsame ⟨rfl, rfl⟩) | (go_at_call 63; refine (rclean_any _ _ (by assumption)).mono ?_; rintro e wsame ⟨rfl, rfl⟩) | fail)
        go_ret
        exact ⟨ret_b hG.out.symm, B1.out⟩
      · have k2 : wordS tenant = true := by simpa using k2
        by_cases k3 : wordS id = false
        · have hG : Hid (V = false) := Lib.hid (by rw [HNV.out]; simp [k0, k1, k2, k3])
          go_enter Tryz.func34, Tryz.ntmps34
          go_wp2_with (first | (go_at_call 71; refine (rword_any _ _ (by assumption)).mono ?_; rintro e wsame ⟨rfl, rfl⟩) | (go_at_call 63; refine (rclean_any _ _ (by assumption)).mono ?_; rintro e wsame ⟨rfl, rfl⟩) | fail)
          go_ret
          exact ⟨ret_b hG.out.symm, B1.out⟩
        · have k3 : wordS id = true := by simpa using k3
          rcases opt_cases session with ⟨q1, q2⟩ | hse
          · have hG : Hid (V = false) := Lib.hid (by rw [HNV.out]; simp [k0, k1, k2, k3, opt_bad q1 q2])
            go_enter Tryz.func34, Tryz.ntmps34
            go_wp2_with (first | (go_at_call 71; refine (rword_any _ _ (by assumption)).mono ?_; rintro e wsame ⟨rfl, rfl⟩) | (go_at_call 63; refine (rclean_any _ _ (by assumption)).mono ?_; rintro e wsame ⟨rfl, rfl⟩) | fail)
            go_ret
            exact ⟨ret_b hG.out.symm, B1.out⟩
          · have HSO : Hid (optB session = true) := Lib.hid (opt_good hse)
            rcases opt_cases nonce with ⟨q3, q4⟩ | hne
            · have hG : Hid (V = false) := Lib.hid (by rw [HNV.out]; simp [k0, k1, k2, k3, HSO.out, opt_bad q3 q4])
              rcases hse with q1 | ⟨q1, q2⟩
              all_goals
                go_enter Tryz.func34, Tryz.ntmps34
                go_wp2_with (first | (go_at_call 71; refine (rword_any _ _ (by assumption)).mono ?_; rintro e wsame ⟨rfl, rfl⟩) | (go_at_call 63; refine (rclean_any _ _ (by assumption)).mono ?_; rintro e wsame ⟨rfl, rfl⟩) | fail)
                go_ret
                exact ⟨ret_b hG.out.symm, B1.out⟩
            · have HNO : Hid (optB nonce = true) := Lib.hid (opt_good hne)
              by_cases k4 : cleanS issuer = false
              · have hG : Hid (V = false) := Lib.hid (by rw [HNV.out]; simp [k0, k1, k2, k3, HSO.out, HNO.out, k4])
                rcases hse with q1 | ⟨q1, q2⟩ <;> rcases hne with q3 | ⟨q3, q4⟩
                all_goals
                  go_enter Tryz.func34, Tryz.ntmps34
                  go_wp2_with (first | (go_at_call 71; refine (rword_any _ _ (by assumption)).mono ?_; rintro e wsame ⟨rfl, rfl⟩) | (go_at_call 63; refine (rclean_any _ _ (by assumption)).mono ?_; rintro e wsame ⟨rfl, rfl⟩) | fail)
                  go_ret
                  exact ⟨ret_b hG.out.symm, B1.out⟩
              · have k4 : cleanS issuer = true := by simpa using k4
                have hG : Hid (V = cleanS subject) := Lib.hid (by rw [HNV.out]; simp [k0, k1, k2, k3, HSO.out, HNO.out, k4])
                rcases hse with q1 | ⟨q1, q2⟩ <;> rcases hne with q3 | ⟨q3, q4⟩
                all_goals
                  go_enter Tryz.func34, Tryz.ntmps34
                  go_wp2_with (first | (go_at_call 71; refine (rword_any _ _ (by assumption)).mono ?_; rintro e wsame ⟨rfl, rfl⟩) | (go_at_call 63; refine (rclean_any _ _ (by assumption)).mono ?_; rintro e wsame ⟨rfl, rfl⟩) | fail)
                  go_ret
                  exact ⟨ret_b hG.out.symm, B1.out⟩
end Go.Proofs.YtpmikpijonccjaaGreatDoor

/- The reference's lists. -/
namespace Go.Proofs.YtpmikpijonccjaaGreatDoor
open Go.RowKit

theorem quiet_l {P : Program} {f : FuncId} {args : Array Value} {w : World} {n : Nat} {v : Value}
    (h : Calls P f args (w.drewN n) fun e w' => e = .returned v ∧ w.drewN n = w') : Calls P f args (w.drewN n) fun e w'' => e = .returned v ∧ ∃ m, w'' = w.drewN m :=
  h.mono fun _ _ ⟨he, hm⟩ => ⟨he, n, hm.symm⟩
theorem has_take (l : List ByteArray) (k : Nat) (hk : k ≤ l.length) (A : Option Addr) (c : Nat) (s : ByteArray) (w : World) (hS : Strs w A l) (hl : l.length ≤ 9223372036854775807) :
    Calls Tryz.prog 28 #[.slice A k c, .string s] w fun e w' => e = .returned (.bool (memB (l.take k) s)) ∧ w = w' := by
  have h := has_any (l.take k) A c s w (fun i hi => by
    have hi' : i < l.length := by have := hi; simp at this; omega
    have := hS i hi'
    simpa using this) (by rw [List.length_take]; omega)
  rwa [show (l.take k).length = k by rw [List.length_take]; omega] at h
theorem drewN_below (w : World) (n : Nat) : Below w.heap.size w (w.drewN n) := below_drewN' (Below.refl _ _) n
set_option maxHeartbeats 16000000 in
set_option maxRecDepth 100000 in
theorem rlists_any (c : Cl) (p : P3) (w : World) (hin : ClIn c p) (hC : ClAt w c p) :
    Calls Tryz.prog 35 #[clV c p] w fun e w' => e = .returned (.int .i64 (listE c)) ∧ Below w.heap.size w w' := by
  obtain ⟨kind, issuer, subject, client, tenant, id, session, nonce, aud, sco, act, issued, nb, exp, auth, level⟩ := c
  obtain ⟨a1, c1, a2, c2, a3, c3⟩ := p
  obtain ⟨_, _, _, _, _, _, _, _, l1, l2, l3, m1, m2, m3, z1, z2, z3, _, _, _, _, _⟩ := hin
  simp only at l1 l2 l3 m1 m2 m3 z1 z2 z3
  have HC := Lib.hid hC
  clear hC
  have HLE : Hid (listE ⟨kind, issuer, subject, client, tenant, id, session, nonce, aud, sco, act, issued, nb, exp, auth, level⟩ = if audE aud = 0 then (if scoE sco = 0 then actE act else scoE sco) else audE aud) := Lib.hid rfl
  have X1 : Hid (ClBox (w.alloc (.cells #[.string kind, .string issuer, .string subject, .string client, .string tenant, .string id, .string session, .string nonce, .slice a1 aud.length c1, .slice a2 sco.length c2, .slice a3 act.length c3, .int .i64 issued, .int .i64 nb, .int .i64 exp, .int .i64 auth, .int .i64 level] 24)) w.heap.size ⟨kind, issuer, subject, client, tenant, id, session, nonce, aud, sco, act, issued, nb, exp, auth, level⟩ ⟨a1, c1, a2, c2, a3, c3⟩) := Lib.hid (ClBox.new w ⟨kind, issuer, subject, client, tenant, id, session, nonce, aud, sco, act, issued, nb, exp, auth, level⟩ ⟨a1, c1, a2, c2, a3, c3⟩)
  have B1 : Hid (Below w.heap.size w (w.alloc (.cells #[.string kind, .string issuer, .string subject, .string client, .string tenant, .string id, .string session, .string nonce, .slice a1 aud.length c1, .slice a2 sco.length c2, .slice a3 act.length c3, .int .i64 issued, .int .i64 nb, .int .i64 exp, .int .i64 auth, .int .i64 level] 24))) := Lib.hid ((Below.refl _ _).alloc (Nat.le_refl _) _)
  obtain ⟨V, HV⟩ : ∃ V, Hid (listE ⟨kind, issuer, subject, client, tenant, id, session, nonce, aud, sco, act, issued, nb, exp, auth, level⟩ = V) := ⟨_, Lib.hid rfl⟩
  rw [HV.out] at HLE
  rw [HV.out]
  show Calls Tryz.prog 35 #[.agg #[.string kind, .string issuer, .string subject, .string client, .string tenant, .string id, .string session, .string nonce, .slice a1 aud.length c1, .slice a2 sco.length c2, .slice a3 act.length c3, .int .i64 issued, .int .i64 nb, .int .i64 exp, .int .i64 auth, .int .i64 level]] w _
  by_cases g0 : aud.length = 0
  · have hG : Hid (V = 6) := Lib.hid (by rw [HLE.out]; simp [audE, g0])
    have t0 : ((aud.length : Int) == 0) = true := by rw [beq_iff_eq]; omega
    clear g0
    go_enter Tryz.func35, Tryz.ntmps35
    go_wp2_with fail
    go_ret
    exact ⟨ret_i hG.out.symm, B1.out⟩
  · have t0 : ((aud.length : Int) == 0) = false := by rw [beq_eq_false_iff_ne]; omega
    by_cases g1 : 16 < aud.length
    · have hG : Hid (V = 3) := Lib.hid (by rw [HLE.out]; simp [audE, g0, g1])
      go_enter Tryz.func35, Tryz.ntmps35
      go_wp2_with fail
      go_ret
      exact ⟨ret_i hG.out.symm, B1.out⟩
    · have HAE : Hid (audE aud = audF [] aud) := Lib.hid (by rw [audE, if_neg g0, if_neg g1])
      go_enter Tryz.func35, Tryz.ntmps35
      go_wp2_with fail
      go_loopw [3] (fun i wr => ∃ k : Nat, k ≤ aud.length ∧ i = .int .i64 k ∧ Hid (AudAt aud k) ∧ Hid (Below w.heap.size w wr) ∧ Hid (ClBox wr w.heap.size ⟨kind, issuer, subject, client, tenant, id, session, nonce, aud, sco, act, issued, nb, exp, auth, level⟩ ⟨a1, c1, a2, c2, a3, c3⟩)) (fun i _ => aud.length - (intOf i).toNat)
      case atStart => exact ⟨0, Nat.zero_le _, rfl, Lib.hid (AudAt.zero aud), B1, X1⟩
      case round =>
        obtain ⟨k, hk, rfl, HAT, HB, HX⟩ := hrel
        clear X1 B1
        obtain ⟨_, _, _, _, _, _, _, _, x8', _⟩ := HX.out.cells
        have x8 : _ = some (Value.slice a1 aud.length c1) := x8'
        clear x8'
        by_cases hlt : k < aud.length
        · obtain ⟨b, o, rfl, hcell⟩ := (HC.out.below HB.out).aud k hlt
          have hwz := z1 _ (List.getElem_mem hlt)
          have HW5 := Lib.hid (HAT.out.word hlt)
          have HW7 := Lib.hid (HAT.out.twice hlt)
          have HWN := Lib.hid (HAT.out.next hlt)
          have HCT := Lib.hid (fun (s : ByteArray) (W : World) (h : Below w.heap.size w W) => has_take aud k hk (some ⟨b, o, none⟩) c1 s W (HC.out.below h).aud (by omega))
          obtain ⟨x, HXX⟩ : ∃ x, Hid (aud[k] = x) := ⟨_, Lib.hid rfl⟩
          rw [HXX.out] at hcell hwz HW5 HW7 HWN
          have f1 : (0 : Int) ≤ (k : Int) := by omega
          have f2 : (k : Int) ≤ (c1 : Int) := by omega
          have f3 : k ≤ c1 := by omega
          have f4 : (k : Int) < (aud.length : Int) := by omega
          by_cases hw : wordS x = false
          · have hG : Hid (V = 5) := Lib.hid (by rw [HLE.out, HAE.out, HW5.out hw]; rfl)
            go_wp2_with fail
            refine (rword_any x _ hwz).mono ?_
            rintro e wsame ⟨rfl, rfl⟩
            rw [hw]
            go_wp2_with fail
            go_ret
            exact ⟨ret_i hG.out.symm, HB.out⟩
          · have hw : wordS x = true := by simpa using hw
            go_wp2_with fail
            refine (rword_any x _ hwz).mono ?_
            rintro e wsame ⟨rfl, rfl⟩
            rw [hw]
            go_wp2_with fail
            obtain ⟨M, HM⟩ : ∃ M, Hid (memB (aud.take k) x = M) := ⟨_, Lib.hid rfl⟩
            have HQ : Hid (∀ n, Calls Tryz.prog 28 #[.slice (some ⟨b, o, none⟩) k c1, .string x] (wr.drewN n) fun e w'' => e = .returned (.bool M) ∧ ∃ m, w'' = wr.drewN m) := Lib.hid (fun n => by rw [← HM.out]; exact quiet_l (HCT.out x _ (below_drewN' HB.out n)))
            go_quiet ((go_at_call 28; exact HQ.out _))
            have HB2 : Hid (Below w.heap.size w (wr.drewN nq)) := Lib.hid (below_drewN' HB.out nq)
            have HX2 := Lib.hid (HX.out.below (drewN_below wr nq))
            rw [HM.out] at HW7 HWN
            clear f1 f2 f3 f4 HQ x8
            by_cases ht : M = true
            · have hG : Hid (V = 7) := Lib.hid (by rw [HLE.out, HAE.out, HW7.out hw ht]; rfl)
              subst ht
              go_wp2_with fail
              go_ret
              exact ⟨ret_i hG.out.symm, HB2.out⟩
            · have HN := Lib.hid (HWN.out hw ht)
              have ht : M = false := by simpa using ht
              subst ht
              go_wp2_with fail
              go_roundw
              case rel => exact ⟨k + 1, hlt, by go_num, HN, HB2, HX2⟩
              case measure => simp [intOf]; omega
        · have hke : k = aud.length := by omega
          have HA0 : Hid (audE aud = 0) := Lib.hid (by rw [HAE.out]; subst hke; exact HAT.out.done)
          have HLE2 : Hid (V = if scoE sco = 0 then actE act else scoE sco) := Lib.hid (by rw [HLE.out, if_pos HA0.out])
          obtain ⟨_, _, _, _, _, _, _, _, _, x9', _⟩ := HX.out.cells
          have x9 : _ = some (Value.slice a2 sco.length c2) := x9'
          clear x9' HAT HAE HLE
          by_cases g2 : 16 < sco.length
          · have hG : Hid (V = 3) := Lib.hid (by rw [HLE2.out]; simp [scoE, g2])
            go_wp2_with fail
            go_ret
            exact ⟨ret_i hG.out.symm, HB.out⟩
          · have HSE : Hid (scoE sco = scoF none sco) := Lib.hid (by rw [scoE, if_neg g2])
            go_wp2_with fail
            go_loopw [4] (fun i wr => ∃ k : Nat, k ≤ sco.length ∧ i = .int .i64 k ∧ Hid (ScoAt sco k) ∧ Hid (Below w.heap.size w wr) ∧ Hid (ClBox wr w.heap.size ⟨kind, issuer, subject, client, tenant, id, session, nonce, aud, sco, act, issued, nb, exp, auth, level⟩ ⟨a1, c1, a2, c2, a3, c3⟩)) (fun i _ => sco.length - (intOf i).toNat)
            case atStart => exact ⟨0, Nat.zero_le _, rfl, Lib.hid (ScoAt.zero sco), HB, HX⟩
            case round =>
              obtain ⟨k, hk, rfl, HST, HB, HX⟩ := hrel
              clear x8 x9
              obtain ⟨_, _, _, _, _, _, _, _, _, x9', x10', _⟩ := HX.out.cells
              have x9 : _ = some (Value.slice a2 sco.length c2) := x9'
              have x10 : _ = some (Value.slice a3 act.length c3) := x10'
              clear x9' x10'
              by_cases hlt : k < sco.length
              · obtain ⟨b, o, rfl, hcell⟩ := (HC.out.below HB.out).sco k hlt
                have hwz := z2 _ (List.getElem_mem hlt)
                have HW5 := Lib.hid (HST.out.word hlt)
                have HFI := Lib.hid (fun (h : k = 0) => show wordS sco[k] = true → ScoAt sco (k + 1) by subst h; exact HST.out.first hlt)
                have HOR := Lib.hid (fun h0 => HST.out.order' h0 hlt)
                have HNX := Lib.hid (fun h0 => HST.out.next' h0 hlt)
                obtain ⟨x, HXX⟩ : ∃ x, Hid (sco[k] = x) := ⟨_, Lib.hid rfl⟩
                rw [HXX.out] at hcell hwz HW5 HFI HOR HNX
                by_cases hw : wordS x = false
                · have hG : Hid (V = 5) := Lib.hid (by rw [HLE2.out, HSE.out, HW5.out hw]; rfl)
                  go_wp2_with fail
                  refine (rword_any x _ hwz).mono ?_
                  rintro e wsame ⟨rfl, rfl⟩
                  rw [hw]
                  go_wp2_with fail
                  go_ret
                  exact ⟨ret_i hG.out.symm, HB.out⟩
                · have hw : wordS x = true := by simpa using hw
                  by_cases hk0 : k = 0
                  · have HN := Lib.hid (HFI.out hk0 hw)
                    subst hk0
                    rw [Nat.add_zero] at hcell
                    go_wp2_with fail
                    refine (rword_any x _ hwz).mono ?_
                    rintro e wsame ⟨rfl, rfl⟩
                    rw [hw]
                    go_wp2_with fail
                    go_quiet (fail)
                    have HB2 : Hid (Below w.heap.size w (wr.drewN nq)) := Lib.hid (below_drewN' HB.out nq)
                    have HX2 := Lib.hid (HX.out.below (drewN_below wr nq))
                    go_wp2_with fail
                    go_roundw
                    case rel => exact ⟨1, hlt, rfl, HN, HB2, HX2⟩
                    case measure => simp [intOf]; omega
                  · have h0 : 0 < k := by omega
                    obtain ⟨b', o', hbo, hprev'⟩ := (HC.out.below HB.out).sco (k - 1) (show k - 1 < sco.length by omega)
                    injection hbo with hbo
                    injection hbo with hb1 hb2
                    subst hb1
                    subst hb2
                    obtain ⟨y, HY⟩ : ∃ y, Hid (sco[k - 1]'(by omega) = y) := ⟨_, Lib.hid rfl⟩
                    have hprev : _ = some (Value.string y) := hprev'.trans (by rw [HY.out])
                    have HOR2 := Lib.hid (HOR.out h0 hw)
                    have HNX2 := Lib.hid (HNX.out h0 hw)
                    rw [HY.out] at HOR2 HNX2
                    clear hprev'
                    have f1 : IntKind.i64.wrap ((k : Int) - 1) = (k : Int) - 1 := IntWalk.i64_in _ (by omega)
                    have f2 : ((k : Int) - 1).toNat = k - 1 := by omega
                    have f3 : (0 : Int) ≤ (k : Int) - 1 := by omega
                    have f4 : (1 : Int) ≤ (k : Int) := by omega
                    have f5 : (k : Int) - 1 < (sco.length : Int) := by omega
                    have f6 : decide ((0 : Int) < (k : Int)) = true := decide_eq_true (by omega)
                    have f7 : (k : Int) < (sco.length : Int) := by omega
                    have f8 : (0 : Int) ≤ (k : Int) := by omega
                    have HLQ := Lib.hid (leq_ord y x)
                    by_cases ho : ordB y x = true
                    · have HN := Lib.hid (HNX2.out ho)
                      have b0 : (Op.bytesLess x.toList y.toList || x.toList == y.toList) = false := by rw [HLQ.out, ho]; rfl
                      clear ho
                      go_wp2_with fail
                      refine (rword_any x _ hwz).mono ?_
                      rintro e wsame ⟨rfl, rfl⟩
                      rw [hw]
                      go_wp2_with fail
                      go_quiet (fail)
                      have HB2 : Hid (Below w.heap.size w (wr.drewN nq)) := Lib.hid (below_drewN' HB.out nq)
                      have HX2 := Lib.hid (HX.out.below (drewN_below wr nq))
                      go_wp2_with fail
                      go_roundw
                      case rel => exact ⟨k + 1, hlt, by go_num, HN, HB2, HX2⟩
                      case measure => simp [intOf]; omega
                    · have ho : ordB y x = false := by simpa using ho
                      have b0 : (Op.bytesLess x.toList y.toList || x.toList == y.toList) = true := by rw [HLQ.out, ho]; rfl
                      have hG : Hid (V = 4) := Lib.hid (by rw [HLE2.out, HSE.out, HOR2.out ho]; rfl)
                      clear ho
                      go_wp2_with fail
                      refine (rword_any x _ hwz).mono ?_
                      rintro e wsame ⟨rfl, rfl⟩
                      rw [hw]
                      go_wp2_with fail
                      go_quiet (fail)
                      have HB2 : Hid (Below w.heap.size w (wr.drewN nq)) := Lib.hid (below_drewN' HB.out nq)
                      go_wp2_with fail
                      go_ret
                      exact ⟨ret_i hG.out.symm, HB2.out⟩
              · have hke : k = sco.length := by omega
                have HS0 : Hid (scoE sco = 0) := Lib.hid (by rw [HSE.out]; subst hke; exact HST.out.done)
                have HLE3 : Hid (V = actE act) := Lib.hid (by rw [HLE2.out, if_pos HS0.out])
                clear HST HSE HLE2
                by_cases g3 : 4 < act.length
                · have hG : Hid (V = 3) := Lib.hid (by rw [HLE3.out]; simp [actE, g3])
                  go_wp2_with fail
                  go_ret
                  exact ⟨ret_i hG.out.symm, HB.out⟩
                · have HCE : Hid (actE act = actF act) := Lib.hid (by rw [actE, if_neg g3])
                  go_wp2_with fail
                  go_loop [5] (fun i => ∃ k : Nat, k ≤ act.length ∧ i = .int .i64 k ∧ Hid (ActAt act k)) (fun i => act.length - (intOf i).toNat)
                  case atStart => exact ⟨0, Nat.zero_le _, rfl, Lib.hid (ActAt.zero act)⟩
                  case round =>
                    obtain ⟨k, hk, rfl, HAC⟩ := hrel
                    by_cases hlt : k < act.length
                    · obtain ⟨b, o, rfl, hcell⟩ := (HC.out.below HB.out).act k hlt
                      have hwz := z3 _ (List.getElem_mem hlt)
                      have HW5 := Lib.hid (HAC.out.bad hlt)
                      have HN1 := Lib.hid (HAC.out.next hlt)
                      obtain ⟨x, HXX⟩ : ∃ x, Hid (act[k] = x) := ⟨_, Lib.hid rfl⟩
                      rw [HXX.out] at hcell hwz HW5 HN1
                      go_wp2_with fail
                      refine (rclean_any x _ hwz).mono ?_
                      rintro e wsame ⟨rfl, rfl⟩
                      by_cases hw : cleanS x = false
                      · have hG : Hid (V = 5) := Lib.hid (by rw [HLE3.out, HCE.out, HW5.out hw])
                        rw [hw]
                        go_wp2_with fail
                        go_ret
                        exact ⟨ret_i hG.out.symm, HB.out⟩
                      · have hw : cleanS x = true := by simpa using hw
                        have HN2 := Lib.hid (HN1.out hw)
                        rw [hw]
                        go_wp2_with fail
                        go_round
                        case rel => exact ⟨k + 1, hlt, by go_num, HN2⟩
                        case measure => simp [intOf]; omega
                    · have hke : k = act.length := by omega
                      have hG : Hid (V = 0) := Lib.hid (by rw [HLE3.out, HCE.out]; subst hke; exact HAC.out.done)
                      go_wp2_with fail
                      go_ret
                      exact ⟨ret_i hG.out.symm, HB.out⟩
end Go.Proofs.YtpmikpijonccjaaGreatDoor

/- The reference's Check. -/
namespace Go.Proofs.YtpmikpijonccjaaGreatDoor
open Go.RowKit

set_option maxHeartbeats 8000000 in
set_option maxRecDepth 100000 in
theorem rcheck_any (c : Cl) (p : P3) (w : World) (hin : ClIn c p) (hC : ClAt w c p) :
    Calls Tryz.prog 13 #[clV c p] w fun e w' => e = .returned (.int .i64 (checkE c)) ∧ Below w.heap.size w w' := by
  have B1 : Hid (Below w.heap.size w (w.alloc (clO c p))) := Lib.hid ((Below.refl _ _).alloc (Nat.le_refl _) _)
  have X1 : Hid (ClBox (w.alloc (clO c p)) w.heap.size c p) := Lib.hid (ClBox.new w c p)
  have HC := Lib.hid hC
  have HI := Lib.hid hin
  clear hC hin
  have HE : Hid (checkE c = if nameB c = true then (if listE c = 0 then (if timeB c = true then (if 0 ≤ c.level ∧ c.level ≤ 3 then 0 else 27) else 2) else listE c) else 5) := Lib.hid rfl
  obtain ⟨V, HV⟩ : ∃ V, Hid (checkE c = V) := ⟨_, Lib.hid rfl⟩
  obtain ⟨N, HN⟩ : ∃ N, Hid (nameB c = N) := ⟨_, Lib.hid rfl⟩
  obtain ⟨L, HL⟩ : ∃ L, Hid (listE c = L) := ⟨_, Lib.hid rfl⟩
  have HT : Hid (timeB c = (validT c.issued && validT c.nb && validT c.exp && validT c.auth && decide (c.issued ≤ c.exp ∧ c.nb ≤ c.exp))) := Lib.hid rfl
  rw [HV.out, HN.out, HL.out, HT.out] at HE
  rw [HV.out]
  clear HT
  go_enter Tryz.func13, Tryz.ntmps13
  go_wp2_with (first | (refine box_cl rfl _ rfl _ rfl c p rfl ?_) | (refine load_cl rfl _ rfl _ rfl w.heap.size rfl c p X1 ?_) | fail)
  refine (rnames_any c p _ HI.out).mono ?_
  rintro e w2 ⟨rfl, hb2⟩
  rw [HN.out]
  have B2 := Lib.hid (bthen B1.out hb2)
  have X2 := Lib.hid (X1.out.below hb2)
  clear hb2 B1 X1
  cases N with
  | false =>
    have hG : Hid (V = 5) := Lib.hid (by rw [HE.out]; rfl)
    go_wp2_with fail
    go_ret
    exact ⟨ret_i hG.out.symm, B2.out⟩
  | true =>
    have HE2 := Lib.hid (HE.out.trans (if_pos rfl))
    clear HE
    go_wp2_with (first | (refine load_cl rfl _ rfl _ rfl w.heap.size rfl c p X2 ?_) | fail)
    refine (rlists_any c p _ HI.out (HC.out.below B2.out)).mono ?_
    rintro e w3 ⟨rfl, hb3⟩
    rw [HL.out]
    have B3 := Lib.hid (bthen B2.out hb3)
    have X3 := Lib.hid (X2.out.below hb3)
    clear hb3 B2 X2
    by_cases hl : L = 0
    · have t0 : (L != 0) = false := by rw [hl]; rfl
      have HE3 := Lib.hid (HE2.out.trans (if_pos hl))
      clear HE2 hl
      obtain ⟨_, _, _, _, _, _, _, _, _, _, _, x11, x12, x13, x14, x15⟩ := X3.out.cells
      obtain ⟨issued, HIS⟩ : ∃ v, Hid (c.issued = v) := ⟨_, Lib.hid rfl⟩
      obtain ⟨nb, HNB⟩ : ∃ v, Hid (c.nb = v) := ⟨_, Lib.hid rfl⟩
      obtain ⟨exp, HEX⟩ : ∃ v, Hid (c.exp = v) := ⟨_, Lib.hid rfl⟩
      obtain ⟨auth, HAU⟩ : ∃ v, Hid (c.auth = v) := ⟨_, Lib.hid rfl⟩
      obtain ⟨level, HLV⟩ : ∃ v, Hid (c.level = v) := ⟨_, Lib.hid rfl⟩
      rw [HIS.out, HNB.out, HEX.out, HAU.out, HLV.out] at HE3
      rw [HIS.out] at x11
      rw [HNB.out] at x12
      rw [HEX.out] at x13
      rw [HAU.out] at x14
      rw [HLV.out] at x15
      by_cases v0 : validT issued = false
      · have hG : Hid (V = 2) := Lib.hid (by rw [HE3.out]; simp [v0])
        go_wp2_with (first | (go_at_call 36; refine (rvalidT_any _ _).mono ?_; rintro e wsame ⟨rfl, rfl⟩) | fail)
        go_ret
        exact ⟨ret_i hG.out.symm, B3.out⟩
      · have v0 : validT issued = true := by simpa using v0
        by_cases v1 : validT nb = false
        · have hG : Hid (V = 2) := Lib.hid (by rw [HE3.out]; simp [v0, v1])
          go_wp2_with (first | (go_at_call 36; refine (rvalidT_any _ _).mono ?_; rintro e wsame ⟨rfl, rfl⟩) | fail)
          go_ret
          exact ⟨ret_i hG.out.symm, B3.out⟩
        · have v1 : validT nb = true := by simpa using v1
          by_cases v2 : validT exp = false
          · have hG : Hid (V = 2) := Lib.hid (by rw [HE3.out]; simp [v0, v1, v2])
            go_wp2_with (first | (go_at_call 36; refine (rvalidT_any _ _).mono ?_; rintro e wsame ⟨rfl, rfl⟩) | fail)
            go_ret
            exact ⟨ret_i hG.out.symm, B3.out⟩
          · have v2 : validT exp = true := by simpa using v2
            by_cases v3 : validT auth = false
            · have hG : Hid (V = 2) := Lib.hid (by rw [HE3.out]; simp [v0, v1, v2, v3])
              go_wp2_with (first | (go_at_call 36; refine (rvalidT_any _ _).mono ?_; rintro e wsame ⟨rfl, rfl⟩) | fail)
              go_ret
              exact ⟨ret_i hG.out.symm, B3.out⟩
            · have v3 : validT auth = true := by simpa using v3
              by_cases o1 : exp < issued
              · have hG : Hid (V = 2) := Lib.hid (by rw [HE3.out]; rw [if_neg (by simp [v0, v1, v2, v3]; omega)])
                go_wp2_with (first | (go_at_call 36; refine (rvalidT_any _ _).mono ?_; rintro e wsame ⟨rfl, rfl⟩) | fail)
                go_ret
                exact ⟨ret_i hG.out.symm, B3.out⟩
              · by_cases o2 : exp < nb
                · have hG : Hid (V = 2) := Lib.hid (by rw [HE3.out]; rw [if_neg (by simp [v0, v1, v2, v3]; omega)])
                  go_wp2_with (first | (go_at_call 36; refine (rvalidT_any _ _).mono ?_; rintro e wsame ⟨rfl, rfl⟩) | fail)
                  go_ret
                  exact ⟨ret_i hG.out.symm, B3.out⟩
                · have HE4 := Lib.hid (HE3.out.trans (if_pos (by simp [v0, v1, v2, v3]; omega)))
                  clear HE3
                  by_cases g5 : level < 0
                  · have hG : Hid (V = 27) := Lib.hid (by rw [HE4.out]; rw [if_neg (by omega)])
                    go_wp2_with (first | (go_at_call 36; refine (rvalidT_any _ _).mono ?_; rintro e wsame ⟨rfl, rfl⟩) | fail)
                    go_ret
                    exact ⟨ret_i hG.out.symm, B3.out⟩
                  · by_cases g6 : 3 < level
                    · have hG : Hid (V = 27) := Lib.hid (by rw [HE4.out]; rw [if_neg (by omega)])
                      go_wp2_with (first | (go_at_call 36; refine (rvalidT_any _ _).mono ?_; rintro e wsame ⟨rfl, rfl⟩) | fail)
                      go_ret
                      exact ⟨ret_i hG.out.symm, B3.out⟩
                    · have hG : Hid (V = 0) := Lib.hid (by rw [HE4.out]; rw [if_pos (by omega)])
                      go_wp2_with (first | (go_at_call 36; refine (rvalidT_any _ _).mono ?_; rintro e wsame ⟨rfl, rfl⟩) | fail)
                      go_ret
                      exact ⟨ret_i hG.out.symm, B3.out⟩
    · have t0 : (L != 0) = true := by simp [hl]
      have hG := Lib.hid (HE2.out.trans (if_neg hl))
      clear hl
      go_wp2_with fail
      go_ret
      exact ⟨ret_i hG.out.symm, B3.out⟩
end Go.Proofs.YtpmikpijonccjaaGreatDoor

/- What calls return that hand back claims. -/
namespace Go.Proofs.YtpmikpijonccjaaGreatDoor
open Go.RowKit

theorem Strs.lt {w : World} {A : Option Addr} {l : List ByteArray} (h : Strs w A l) (hn : l ≠ []) : ∀ q, A = some q → q.block < w.heap.size := by
  intro q hq
  have hl : 0 < l.length := by
    cases l with
    | nil => exact absurd rfl hn
    | cons x r => simp
  obtain ⟨b, o, e, hc⟩ := h 0 hl
  rw [hq] at e
  injection e with e
  subst e
  exact World.block_lt_of_cell? w _ hc
theorem Strs.setRow' {w : World} {A : Option Addr} {l : List ByteArray} (h : Strs w A l) {b : Nat} {cs : Array Value} (hb : ∀ q, A = some q → l ≠ [] → q.block ≠ b) : Strs (w.setRow b cs) A l := by
  by_cases hn : l = []
  · subst hn; exact Strs.nil_ _ _
  · exact h.setRow (fun q hq => hb q hq hn)
/-- Strings that a call leaves alone in a block. -/
structure StrsN (w : World) (A : Option Addr) (l : List ByteArray) (N : Nat → Prop) : Prop where
  s : Strs w A l
  n : ∀ q, A = some q → l ≠ [] → ¬ N q.block
theorem StrsN.below {w w' : World} {A : Option Addr} {l : List ByteArray} {N : Nat → Prop} (h : StrsN w A l N) (hb : Below w.heap.size w w') : StrsN w' A l N := ⟨h.s.below hb, h.n⟩
theorem StrsN.setCell {w : World} {A : Option Addr} {l : List ByteArray} {N : Nat → Prop} (h : StrsN w A l N) {b i : Nat} {v : Value} (hb : N b) : StrsN (w.setCell ⟨b, i, none⟩ v) A l N := ⟨h.s.setCell (fun q hq hn e => h.n q hq hn (e ▸ hb)), h.n⟩
theorem StrsN.setRow {w : World} {A : Option Addr} {l : List ByteArray} {N : Nat → Prop} (h : StrsN w A l N) {b : Nat} {cs : Array Value} (hb : N b) : StrsN (w.setRow b cs) A l N := ⟨h.s.setRow' (fun q hq hn e => h.n q hq hn (e ▸ hb)), h.n⟩
theorem OwnS.new {w : World} {B : Nat} {A : Option Addr} {l : List ByteArray} {c : Nat} (h : OwnS w B A l c) {N : Nat → Prop} (hN : ∀ i, N i → i < B) : StrsN w A l N := ⟨h.strs.1, fun q hq _ hn => by have := h.strs.2.2 q hq; have := hN _ hn; omega⟩
theorem Strs.old {w : World} {A : Option Addr} {l : List ByteArray} (h : Strs w A l) {N : Nat → Prop} (hN : ∀ i, N i → w.heap.size ≤ i) : StrsN w A l N := ⟨h, fun q hq hl hn => by have := h.lt hl q hq; have := hN _ hn; omega⟩
def Caps (c : Cl) (p : P3) : Prop := c.aud.length ≤ p.c1 ∧ c.sco.length ≤ p.c2 ∧ c.act.length ≤ p.c3
/-- What a call returns that hands back claims and a code. -/
def RetCl (w' : World) (e : Ending) (C : Cl) (E : Int) : Prop := ∃ p', e = .returned (.tuple #[clV C p', .int .i64 E]) ∧ ClAt w' C p' ∧ Caps C p'
theorem RetCl.zero (w' : World) {E G : Int} {C : Cl} (h : G = E ∧ C = cl0) : RetCl w' (.returned (.tuple #[clV cl0 p30, .int .i64 E])) C G := by
  obtain ⟨rfl, rfl⟩ := h
  exact ⟨p30, rfl, ⟨Strs.nil_ _ _, Strs.nil_ _ _, Strs.nil_ _ _⟩, Nat.le_refl _, Nat.le_refl _, Nat.le_refl _⟩
theorem nar0 {c : Cl} {sc au : List ByteArray} {e : Int} (h : checkE c ≠ 0) : narE c sc au e = checkE c ∧ narV c sc au e = cl0 := by
  have e1 : narE c sc au e = checkE c := by rw [narE, if_neg h]
  exact ⟨e1, by rw [narV, if_neg (by rw [e1]; exact h)]⟩
theorem nar1 {c : Cl} {sc au : List ByteArray} {e : Int} (h : checkE c = 0) (h1 : allIn sc c.sco = false) : narE c sc au e = 19 ∧ narV c sc au e = cl0 := by
  have e1 : narE c sc au e = 19 := by rw [narE, if_pos h, if_neg (by rw [h1]; decide)]
  exact ⟨e1, by rw [narV, if_neg (by rw [e1]; decide)]⟩
theorem nar2 {c : Cl} {sc au : List ByteArray} {e : Int} (h : checkE c = 0) (h1 : allIn sc c.sco = true) (h2 : au.length = 0 ∨ allIn au c.aud = false) : narE c sc au e = 15 ∧ narV c sc au e = cl0 := by
  have e1 : narE c sc au e = 15 := by
    rw [narE, if_pos h, if_pos h1, if_neg]
    rintro ⟨g1, g2⟩
    rcases h2 with h2 | h2
    · exact g1 h2
    · rw [h2] at g2; cases g2
  exact ⟨e1, by rw [narV, if_neg (by rw [e1]; decide)]⟩
theorem nar3 {c : Cl} {sc au : List ByteArray} {e : Int} (h : checkE c = 0) (h1 : allIn sc c.sco = true) (h2 : au.length ≠ 0) (h3 : allIn au c.aud = true) (h4 : c.exp < limT e ∨ limT e < c.issued ∨ limT e < c.nb) : narE c sc au e = 27 ∧ narV c sc au e = cl0 := by
  have e1 : narE c sc au e = 27 := by rw [narE, if_pos h, if_pos h1, if_pos ⟨h2, h3⟩, if_pos h4]
  exact ⟨e1, by rw [narV, if_neg (by rw [e1]; decide)]⟩
theorem nar4 {c : Cl} {sc au : List ByteArray} {e : Int} (h : checkE c = 0) (h1 : allIn sc c.sco = true) (h2 : au.length ≠ 0) (h3 : allIn au c.aud = true) (h4 : ¬ (c.exp < limT e ∨ limT e < c.issued ∨ limT e < c.nb)) : narE c sc au e = 0 ∧ narV c sc au e = narC c sc au e := by
  have e1 : narE c sc au e = 0 := by rw [narE, if_pos h, if_pos h1, if_pos ⟨h2, h3⟩, if_neg h4]
  exact ⟨e1, by rw [narV, if_pos e1]⟩
def withSco (c : Cl) (l : List ByteArray) : Cl := ⟨c.kind, c.issuer, c.subject, c.client, c.tenant, c.id, c.session, c.nonce, c.aud, l, c.act, c.issued, c.nb, c.exp, c.auth, c.level⟩
def withAud (c : Cl) (l : List ByteArray) : Cl := ⟨c.kind, c.issuer, c.subject, c.client, c.tenant, c.id, c.session, c.nonce, l, c.sco, c.act, c.issued, c.nb, c.exp, c.auth, c.level⟩
def withAct (c : Cl) (l : List ByteArray) : Cl := ⟨c.kind, c.issuer, c.subject, c.client, c.tenant, c.id, c.session, c.nonce, c.aud, c.sco, l, c.issued, c.nb, c.exp, c.auth, c.level⟩
def withExp (c : Cl) (e : Int) : Cl := ⟨c.kind, c.issuer, c.subject, c.client, c.tenant, c.id, c.session, c.nonce, c.aud, c.sco, c.act, c.issued, c.nb, e, c.auth, c.level⟩
theorem ClBox.sco {w : World} {b : Nat} {c : Cl} {p : P3} (h : ClBox w b c p) (l : List ByteArray) (A : Option Addr) (n : Nat) : ClBox (w.setCell ⟨b, 9, none⟩ (.slice A l.length n)) b (withSco c l) ⟨p.a1, p.c1, A, n, p.a3, p.c3⟩ := h.put _ _ rfl
theorem ClBox.aud {w : World} {b : Nat} {c : Cl} {p : P3} (h : ClBox w b c p) (l : List ByteArray) (A : Option Addr) (n : Nat) : ClBox (w.setCell ⟨b, 8, none⟩ (.slice A l.length n)) b (withAud c l) ⟨A, n, p.a2, p.c2, p.a3, p.c3⟩ := h.put _ _ rfl
theorem ClBox.act {w : World} {b : Nat} {c : Cl} {p : P3} (h : ClBox w b c p) (l : List ByteArray) (A : Option Addr) (n : Nat) : ClBox (w.setCell ⟨b, 10, none⟩ (.slice A l.length n)) b (withAct c l) ⟨p.a1, p.c1, p.a2, p.c2, A, n⟩ := h.put _ _ rfl
theorem ClBox.exp {w : World} {b : Nat} {c : Cl} {p : P3} (h : ClBox w b c p) (e : Int) : ClBox (w.setCell ⟨b, 13, none⟩ (.int .i64 e)) b (withExp c e) p := h.put _ _ rfl
theorem SmallL.of {c : Cl} (h : ClSmall c) : SmallL c := ⟨by have := h.l1; omega, by have := h.l2; omega, by have := h.l3; omega⟩
end Go.Proofs.YtpmikpijonccjaaGreatDoor

/- claims.Act and its reference. -/
namespace Go.Proofs.YtpmikpijonccjaaGreatDoor
open Go.RowKit

theorem act0 {c : Cl} {a : ByteArray} (h : checkE c ≠ 0) : actEr c a = checkE c ∧ actV c a = cl0 := by
  have e1 : actEr c a = checkE c := by rw [actEr, if_neg h]
  exact ⟨e1, by rw [actV, if_neg (by rw [e1]; exact h)]⟩
theorem act1 {c : Cl} {a : ByteArray} (h : checkE c = 0) (h1 : cleanS a = false) : actEr c a = 5 ∧ actV c a = cl0 := by
  have e1 : actEr c a = 5 := by rw [actEr, if_pos h, if_neg (by rw [h1]; decide)]
  exact ⟨e1, by rw [actV, if_neg (by rw [e1]; decide)]⟩
theorem act2 {c : Cl} {a : ByteArray} (h : checkE c = 0) (h1 : cleanS a = true) (h2 : a = c.subject ∨ memB c.act a = true) : actEr c a = 28 ∧ actV c a = cl0 := by
  have e1 : actEr c a = 28 := by rw [actEr, if_pos h, if_pos h1, if_pos h2]
  exact ⟨e1, by rw [actV, if_neg (by rw [e1]; decide)]⟩
theorem act3 {c : Cl} {a : ByteArray} (h : checkE c = 0) (h1 : cleanS a = true) (h2 : ¬ (a = c.subject ∨ memB c.act a = true)) (h3 : 4 ≤ c.act.length) : actEr c a = 3 ∧ actV c a = cl0 := by
  have e1 : actEr c a = 3 := by rw [actEr, if_pos h, if_pos h1, if_neg h2, if_pos h3]
  exact ⟨e1, by rw [actV, if_neg (by rw [e1]; decide)]⟩
theorem act4 {c : Cl} {a : ByteArray} (h : checkE c = 0) (h1 : cleanS a = true) (h2 : ¬ (a = c.subject ∨ memB c.act a = true)) (h3 : ¬ 4 ≤ c.act.length) : actEr c a = 0 ∧ actV c a = actC c a := by
  have e1 : actEr c a = 0 := by rw [actEr, if_pos h, if_pos h1, if_neg h2, if_neg h3]
  exact ⟨e1, by rw [actV, if_pos e1]⟩
theorem act_with (c : Cl) (a : ByteArray) : actC c a = withAct c (c.act ++ [a]) := rfl
theorem strs_src {w : World} {ad : Addr} {l : List ByteArray} (h : Strs w (some ad) l) : ∀ j u, (strVs l)[j]? = some u → w.cell? (ad.add j) = some u := by
  intro j u hu
  have hj : j < l.length := by
    have := (List.getElem?_eq_some_iff.1 hu).1
    simpa [strVs] using this
  obtain ⟨b, o, e, hc⟩ := h j hj
  injection e with e
  subst e
  rw [strVs_at l j hj] at hu
  have he : (⟨b, o, none⟩ : Addr).add j = ⟨b, o + j, none⟩ := by unfold Addr.add; split <;> simp_all
  rw [he, hc]; exact hu
theorem own_ne {w : World} {B : Nat} {A : Option Addr} {l : List ByteArray} {c i : Nat} (h : OwnS w B A l c) (hi : ∀ q, A = some q → q.block ≠ i) : (Value.slice A l.length c).ownBlock ≠ some i := by
  rcases h.2 with ⟨e, _⟩ | ⟨g, cap, cur, e, hg, hh, _⟩
  · rw [e]; simp [Value.ownBlock]
  · rw [e]
    injection e with e1 e2 e3
    intro h2
    have h3 : g = i := Option.some.inj h2
    exact hi _ e1 h3
theorem own_blk {w : World} {B : Nat} {A : Option Addr} {l : List ByteArray} {c : Nat} (h : OwnS w B A l c) : ∀ q, A = some q → (Value.slice A l.length c).ownBlock = some q.block := by
  intro q hq
  rcases h.2 with ⟨e, _⟩ | ⟨g, cap, cur, e, hg, hh, _⟩
  · subst hq; cases e
  · rw [e]
    injection e with e1 e2 e3
    rw [e1] at hq
    injection hq with hq
    subst hq
    rfl
theorem strs_heap {w w' : World} {A : Option Addr} {l : List ByteArray} (h : Strs w A l) (hh : ∀ q, A = some q → w'.heap[q.block]? = w.heap[q.block]?) : Strs w' A l := by
  intro j hj
  obtain ⟨g, o, e, hc⟩ := h j hj
  refine ⟨g, o, e, ?_⟩
  rw [← hc]
  exact World.cell?_of_block (show w'.heap[g]? = w.heap[g]? from hh ⟨g, o, none⟩ e)
theorem one_at25 (w : World) (v : Value) (t : TypeId) (n : Nat) (hn : w.heap.size = n) : ∀ j u, [v][j]? = some u → (w.alloc (.cells #[v] t)).cell? ((⟨n, 0, none⟩ : Addr).add j) = some u := by
  subst hn; exact cell_one_new w v t
theorem own_nil (w : World) (B : Nat) (hB : B ≤ w.heap.size) (e : TypeId) (size : Nat) : (w.alloc (.cells #[] e)).ownsRow B e size (.slice (some ⟨w.heap.size, 0, none⟩) 0 0) 0 [] :=
  ⟨by simp, .inr ⟨w.heap.size, 0, #[], rfl, hB, heap_alloc_new w _, Nat.le_refl _, Nat.zero_le _, by simp, by simp⟩⟩
set_option maxHeartbeats 16000000 in
set_option maxRecDepth 100000 in
theorem act_any (c : Cl) (p : P3) (a : ByteArray) (w : World) (hin : ClIn c p) (hC : ClAt w c p) (ha : a.size ≤ 9223372036854775807) :
    Calls Tryz.prog 25 #[clV c p, .string a] w fun e' w' => RetCl w' e' (actV c a) (actEr c a) ∧ Below w.heap.size w w' := by
  obtain ⟨i0, hi, hz0, hz1, hz2'⟩ := info_parts Tryz.info_s
  have B1 : Hid (Below w.heap.size w ((w.alloc (clO c p)).alloc (clO cl0 p30))) := Lib.hid (((Below.refl _ _).alloc (Nat.le_refl _) _).alloc (by simp) _)
  have X1 : Hid (ClBox ((w.alloc (clO c p)).alloc (clO cl0 p30)) w.heap.size c p) := Lib.hid ((ClBox.new w c p).below ((Below.refl _ _).alloc (Nat.le_refl _) _))
  have Y1 : Hid (ClBox ((w.alloc (clO c p)).alloc (clO cl0 p30)) (w.heap.size + 1) cl0 p30) := Lib.hid (by have h := ClBox.new (w.alloc (clO c p)) cl0 p30; simpa using h)
  have HC := Lib.hid hC
  have HI := Lib.hid hin
  clear hC hin
  obtain ⟨G, HG⟩ : ∃ G, Hid (actEr c a = G) := ⟨_, Lib.hid rfl⟩
  obtain ⟨C, HCC⟩ : ∃ C, Hid (actV c a = C) := ⟨_, Lib.hid rfl⟩
  obtain ⟨E, HE⟩ : ∃ E, Hid (checkE c = E) := ⟨_, Lib.hid rfl⟩
  obtain ⟨K, HK⟩ : ∃ K, Hid (cleanS a = K) := ⟨_, Lib.hid rfl⟩
  obtain ⟨M, HM⟩ : ∃ M, Hid (memB c.act a = M) := ⟨_, Lib.hid rfl⟩
  obtain ⟨su, HSU⟩ : ∃ s, Hid (c.subject = s) := ⟨_, Lib.hid rfl⟩
  have N0 : Hid (E ≠ 0 → G = E ∧ C = cl0) := Lib.hid (by rw [← HE.out, ← HG.out, ← HCC.out]; exact act0)
  have N1 : Hid (E = 0 → K = false → G = 5 ∧ C = cl0) := Lib.hid (by rw [← HE.out, ← HG.out, ← HCC.out, ← HK.out]; exact act1)
  have N2 : Hid (E = 0 → K = true → (a = su ∨ M = true) → G = 28 ∧ C = cl0) := Lib.hid (by rw [← HE.out, ← HG.out, ← HCC.out, ← HK.out, ← HM.out, ← HSU.out]; exact act2)
  have N3 : Hid (E = 0 → K = true → ¬ (a = su ∨ M = true) → 4 ≤ c.act.length → G = 3 ∧ C = cl0) := Lib.hid (by rw [← HE.out, ← HG.out, ← HCC.out, ← HK.out, ← HM.out, ← HSU.out]; exact act3)
  have N4 : Hid (E = 0 → K = true → ¬ (a = su ∨ M = true) → ¬ 4 ≤ c.act.length → G = 0 ∧ C = withAct c (c.act ++ [a])) := Lib.hid (by rw [← HE.out, ← HG.out, ← HCC.out, ← HK.out, ← HM.out, ← HSU.out]; exact act4)
  rw [HG.out, HCC.out]
  clear HG HCC
  go_enter Tryz.func25, Tryz.ntmps25
  go_wp2_with (first | (refine box_cl rfl _ rfl _ rfl c p rfl ?_) | (refine alloc_cl rfl _ rfl rfl ?_) | (refine load_cl rfl _ rfl _ rfl w.heap.size rfl c p X1 ?_) | fail)
  refine (check_any c p _ HI.out (HC.out.below B1.out)).mono ?_
  rintro e0 w2 ⟨rfl, hb2⟩
  rw [HE.out]
  have hz2 : w.heap.size + 2 ≤ w2.heap.size := by have := hb2.size; simp at this; omega
  have B2 := Lib.hid (bthen B1.out hb2)
  have X2 := Lib.hid (X1.out.below hb2)
  have Y2 := Lib.hid (Y1.out.below hb2)
  clear hb2 B1 X1 Y1
  by_cases h0 : ¬ E = 0
  · have t0 : (E != 0) = true := by rw [bne_iff_ne]; exact h0
    have HN := Lib.hid (N0.out h0)
    clear h0
    go_wp2_with (first | (refine build_cl rfl _ rfl rfl ?_) | (refine store_cl rfl _ rfl _ _ rfl (w.heap.size + 1) rfl cl0 p30 rfl cl0 p30 Y2 ?_) | fail)
    refine bodyPost_ret (v := .tuple #[clV cl0 p30, .int .i64 E]) (res_cl Tryz.results25 _ _ (w.heap.size + 1) cl0 p30 _ rfl (Y2.out.set) rfl) rfl ⟨RetCl.zero _ HN.out, below_setRow B2.out (by omega) _⟩
  · have h0 := Decidable.not_not.1 h0
    have t0 : (E != 0) = false := by rw [h0]; rfl
    have HSM : Hid (ClSmall c) := Lib.hid (check_small (HE.out.trans h0))
    have N1b := Lib.hid (N1.out h0)
    have N2b := Lib.hid (N2.out h0)
    have N3b := Lib.hid (N3.out h0)
    have N4b := Lib.hid (N4.out h0)
    clear h0 N0 N1 N2 N3 N4
    have hl3 := HSM.out.l3
    go_wp2_with fail
    refine (clean_any a _ ha).mono ?_
    rintro e0 w3 ⟨rfl, hb3⟩
    have hz3 : w2.heap.size ≤ w3.heap.size := hb3.size
    have B3 := Lib.hid (bthen B2.out hb3)
    have X3 := Lib.hid (X2.out.below hb3)
    have Y3 := Lib.hid (Y2.out.below hb3)
    clear hb3 B2 X2 Y2
    rw [HK.out]
    cases K with
    | false =>
      have HN := Lib.hid (N1b.out (by trivial))
      go_wp2_with (first | (refine build_cl rfl _ rfl rfl ?_) | (refine store_cl rfl _ rfl _ _ rfl (w.heap.size + 1) rfl cl0 p30 rfl cl0 p30 Y3 ?_) | fail)
      refine bodyPost_ret (v := .tuple #[clV cl0 p30, .int .i64 5]) (res_cl Tryz.results25 _ _ (w.heap.size + 1) cl0 p30 _ rfl (Y3.out.set) rfl) rfl ⟨RetCl.zero _ HN.out, below_setRow B3.out (by omega) _⟩
    | true =>
      have N2c := Lib.hid (N2b.out (by trivial))
      have N3c := Lib.hid (N3b.out (by trivial))
      have N4c := Lib.hid (N4b.out (by trivial))
      clear N1b N2b N3b N4b
      obtain ⟨_, _, x2, _, _, _, _, _, _, _, x10, _⟩ := X3.out.cells
      rw [HSU.out] at x2
      by_cases hs : a = su
      · have HN := Lib.hid (N2c.out (.inl hs))
        have t1 : (a.toList == su.toList) = true := by rw [hs]; simp
        clear hs x10
        go_wp2_with (first | (refine build_cl rfl _ rfl rfl ?_) | (refine store_cl rfl _ rfl _ _ rfl (w.heap.size + 1) rfl cl0 p30 rfl cl0 p30 Y3 ?_) | fail)
        refine bodyPost_ret (v := .tuple #[clV cl0 p30, .int .i64 28]) (res_cl Tryz.results25 _ _ (w.heap.size + 1) cl0 p30 _ rfl (Y3.out.set) rfl) rfl ⟨RetCl.zero _ HN.out, below_setRow B3.out (by omega) _⟩
      · have HNS := Lib.hid hs
        have t1 := str_ne hs
        clear hs
        go_wp2_with fail
        have HMM : Hid (memB (c.act.take c.act.length) a = M) := Lib.hid (by rw [List.take_length]; exact HM.out)
        refine (contains_any c.act c.act.length (Nat.le_refl _) p.a3 p.c3 a _ (HC.out.below B3.out).act (by omega)).mono ?_
        rintro e0 wsame ⟨rfl, rfl⟩
        rw [HMM.out]
        cases M with
        | true =>
          have HN := Lib.hid (N2c.out (.inr (by trivial)))
          clear x2 x10
          go_wp2_with (first | (refine build_cl rfl _ rfl rfl ?_) | (refine store_cl rfl _ rfl _ _ rfl (w.heap.size + 1) rfl cl0 p30 rfl cl0 p30 Y3 ?_) | fail)
          refine bodyPost_ret (v := .tuple #[clV cl0 p30, .int .i64 28]) (res_cl Tryz.results25 _ _ (w.heap.size + 1) cl0 p30 _ rfl (Y3.out.set) rfl) rfl ⟨RetCl.zero _ HN.out, below_setRow B3.out (by omega) _⟩
        | false =>
          have HNO : Hid (¬ (a = su ∨ False)) := Lib.hid (by rintro (h | h); exact HNS.out h; exact h)
          by_cases hl : 4 ≤ c.act.length
          · have HN := Lib.hid (N3c.out (by first | exact (fun h => h.elim HNS.out (fun h => by cases h)) | simpa using HNS.out) hl)
            go_wp2_with (first | (refine build_cl rfl _ rfl rfl ?_) | (refine store_cl rfl _ rfl _ _ rfl (w.heap.size + 1) rfl cl0 p30 rfl cl0 p30 Y3 ?_) | fail)
            refine bodyPost_ret (v := .tuple #[clV cl0 p30, .int .i64 3]) (res_cl Tryz.results25 _ _ (w.heap.size + 1) cl0 p30 _ rfl (Y3.out.set) rfl) rfl ⟨RetCl.zero _ HN.out, below_setRow B3.out (by omega) _⟩
          · have HN := Lib.hid (N4c.out (by first | exact (fun h => h.elim HNS.out (fun h => by cases h)) | simpa using HNS.out) hl)
            have HAE : Hid (strVs (c.act ++ [a]) = strVs c.act ++ [strV a]) := Lib.hid (strVs_snoc _ _).symm
            have HLA : Hid ((c.act ++ [a]).length = c.act.length + 1) := Lib.hid (by simp)
            go_wp2_with (first | (refine load_cl rfl _ rfl _ rfl w.heap.size rfl c p X3 ?_) | fail)
            refine (copied_any c p _ (HC.out.below B3.out) (SmallL.of HSM.out)).mono ?_
            rintro e0 w4 ⟨⟨p4, rfl, hcl, hcb4⟩, hb4⟩
            have B4 := Lib.hid (bthen B3.out hb4)
            have Y4 := Lib.hid (Y3.out.below hb4)
            have hz4 : w3.heap.size ≤ w4.heap.size := hb4.size
            have HCB : Hid (w3.heap.size + 2 ≤ w4.heap.size) := Lib.hid hcb4
            have AP := Lib.hid (hcl.ap (by omega))
            have O1 := Lib.hid (hcl.o1 (by omega))
            have O2 := Lib.hid (hcl.o2 (by omega))
            have O3 := Lib.hid (hcl.o3 (by omega))
            clear hb4 hcl hcb4 x2 x10
            have B5 : Hid (Below w.heap.size w ((w4.alloc (clO cl0 p30)).setRow w4.heap.size (clA c p4))) := Lib.hid (below_setRow (B4.out.alloc B4.out.size _) B4.out.size _)
            have Z4 : Hid (ClBox (w4.alloc (clO cl0 p30)) w4.heap.size cl0 p30) := Lib.hid (ClBox.new w4 cl0 p30)
            have HSR : Hid (Below w4.heap.size w4 ((w4.alloc (clO cl0 p30)).setRow w4.heap.size (clA c p4))) := Lib.hid (below_setRow ((Below.refl _ _).alloc (Nat.le_refl _) _) (Nat.le_refl _) _)
            have Y5 := Lib.hid (Y4.out.below HSR.out)
            have Z5 : Hid (ClBox ((w4.alloc (clO cl0 p30)).setRow w4.heap.size (clA c p4)) w4.heap.size c p4) := Lib.hid Z4.out.set
            have P1 := Lib.hid (O1.out.below HSR.out)
            have P2 := Lib.hid (O2.out.below HSR.out)
            have P3' : Hid (OwnS ((w4.alloc (clO cl0 p30)).setRow w4.heap.size (clA c p4)) (w3.heap.size + 2) p4.a3 c.act p4.c3) := Lib.hid (O3.out.below HSR.out)
            have T1 := Lib.hid O1.out.top
            have T2 := Lib.hid O2.out.top
            have T3 := Lib.hid O3.out.top
            have HSZ5 : Hid (((w4.alloc (clO cl0 p30)).setRow w4.heap.size (clA c p4)).heap.size = w4.heap.size + 1) := Lib.hid (by simp)
            obtain ⟨W5, HW5⟩ : ∃ W, Hid (((w4.alloc (clO cl0 p30)).setRow w4.heap.size (clA c p4)) = W) := ⟨_, Lib.hid rfl⟩
            go_wp2_with (first
              | (refine alloc_cl rfl _ rfl rfl ?_)
              | (refine store_cl rfl _ rfl _ _ rfl w4.heap.size rfl c p4 rfl cl0 p30 Z4 ?_; rw [HW5.out]; rw [HW5.out] at B5 Y5 Z5 P1 P2 P3' HSZ5; have z10 := Z5.out.cells.2.2.2.2.2.2.2.2.2.2.1; have zf : W5.frozen? ⟨w4.heap.size, 10, none⟩ = false := frozen_of_row W5 w4.heap.size 10 _ _ Z5.out; clear HSR O1 O2 O3 Y4 Z4 B4)
              | (at_builtin; refine wpList_append_own_at _ rfl _ _ 22 rfl (w3.heap.size + 2) 9 i0 (.string ByteArray.empty) 1 16 Tryz.underlying22 hi hz0 hz1 hz2' rfl (by decide) _ _ _ rfl (World.ownsRow.alloc P3'.out _) ⟨W5.heap.size, 0, none⟩ 1 1 [strV a] rfl rfl (cell_one_new _ _ _) (by intro u hu; simp at hu; subst hu; rfl) (by unfold maxLen; omega) (by omega) (by have := HSZ5.out; have := HCB.out; simp; omega) ?_; intro v6 w6 ho6 hg6 _ hat6; rw [← HAE.out] at ho6; obtain ⟨A6, n6, rfl, hO6⟩ := OwnS.form (l := c.act ++ [a]) ho6 HLA.out.symm; have O6 := Lib.hid hO6; have G6 : Hid (∀ i, i < W5.heap.size → (∀ q, p4.a3 = some q → q.block ≠ i) → w6.heap[i]? = W5.heap[i]?) := Lib.hid (fun i h1 h2 => (hg6.block i (by simp; omega) (fun e => own_ne (w := W5) P3'.out h2 e.symm)).trans (heap_alloc_old _ _ h1)); have S6 : Hid (W5.heap.size ≤ w6.heap.size) := Lib.hid (by have := hg6.size; simp at this; omega); have Z6 : Hid (ClBox w6 w4.heap.size c p4) := Lib.hid ((G6.out w4.heap.size (by have := HSZ5.out; omega) (fun q hq => by have := T3.out q hq; omega)).trans Z5.out); have y10 := Z6.out.cells.2.2.2.2.2.2.2.2.2.2.1; have yf : w6.frozen? ⟨w4.heap.size, 10, none⟩ = false := frozen_of_row w6 w4.heap.size 10 _ _ Z6.out; have FA6 : Hid (∀ q, A6 = some q → q.block ≠ w4.heap.size) := Lib.hid (fun q hq e => by
                have h1 := own_blk O6.out q hq
                rw [e] at h1
                rcases hat6 with h | h
                · exact own_ne (i := w4.heap.size) P3'.out (fun r hr => by have := T3.out r hr; omega) (h.symm.trans h1)
                · have h2 := Option.some.inj (h1.symm.trans h)
                  simp at h2
                  have := HSZ5.out
                  omega); have R1 : Hid (StrsN w6 p4.a1 c.aud (fun i => i = w.heap.size + 1 ∨ i = w4.heap.size)) := Lib.hid ⟨strs_heap P1.out.strs.1 (fun q hq => G6.out q.block (by have := T1.out q hq; have := HSZ5.out; omega) (fun r hr => by have := AP.out q r hr (.inl hq); omega)), fun q hq _ hn => by have := T1.out q hq; have := P1.out.strs.2.2 q hq; omega⟩; have R2 : Hid (StrsN w6 p4.a2 c.sco (fun i => i = w.heap.size + 1 ∨ i = w4.heap.size)) := Lib.hid ⟨strs_heap P2.out.strs.1 (fun q hq => G6.out q.block (by have := T2.out q hq; have := HSZ5.out; omega) (fun r hr => by have := AP.out q r hr (.inr hq); omega)), fun q hq _ hn => by have := T2.out q hq; have := P2.out.strs.2.2 q hq; omega⟩; have R3 : Hid (StrsN w6 A6 (c.act ++ [a]) (fun i => i = w.heap.size + 1 ∨ i = w4.heap.size)) := Lib.hid ⟨O6.out.strs.1, fun q hq _ hn => by have := FA6.out q hq; have := O6.out.strs.2.2 q hq; omega⟩; have CP6 : Hid (Caps (withAct c (c.act ++ [a])) ⟨p4.a1, p4.c1, p4.a2, p4.c2, A6, n6⟩) := Lib.hid ⟨P1.out.strs.2.1, P2.out.strs.2.1, O6.out.strs.2.1⟩; have Y6 : Hid (ClBox w6 (w.heap.size + 1) cl0 p30) := Lib.hid ((G6.out (w.heap.size + 1) (by have := HSZ5.out; have := HCB.out; omega) (fun q hq => by have := P3'.out.strs.2.2 q hq; omega)).trans Y5.out); have B6 : Hid (Below w.heap.size w w6) := Lib.hid (((B5.out.alloc B5.out.size _).grown hg6 (by have := B5.out.size; simp; omega) (fun q hq => by have := (World.ownsRow.alloc P3'.out (.cells #[.string a] 9)).lt q hq; omega))); clear ho6 hg6 hat6 hO6; have HL6' := HLA; obtain ⟨l6, HL6⟩ : ∃ l, Hid ((c.act ++ [a]).length = l) := ⟨_, Lib.hid rfl⟩; have Z7 : Hid (ClBox (w6.setCell ⟨w4.heap.size, 10, none⟩ (.slice A6 l6 n6)) w4.heap.size (withAct c (c.act ++ [a])) ⟨p4.a1, p4.c1, p4.a2, p4.c2, A6, n6⟩) := Lib.hid (by have h := Z6.out.act (c.act ++ [a]) A6 n6; rwa [HL6.out] at h); have Y7 : Hid (ClBox (w6.setCell ⟨w4.heap.size, 10, none⟩ (.slice A6 l6 n6)) (w.heap.size + 1) cl0 p30) := Lib.hid ((heap_setCell_other _ _ _ _ (by show w.heap.size + 1 ≠ w4.heap.size; omega)).trans Y6.out); have B7 : Hid (Below w.heap.size w (w6.setCell ⟨w4.heap.size, 10, none⟩ (.slice A6 l6 n6))) := Lib.hid (B6.out.setCell (by show w.heap.size ≤ w4.heap.size; omega) _); rw [HL6.out])
              | (refine load_cl rfl _ rfl _ rfl w4.heap.size rfl (withAct c (c.act ++ [a])) ⟨p4.a1, p4.c1, p4.a2, p4.c2, A6, n6⟩ Z7 ?_)
              | (refine store_cl rfl _ rfl _ _ rfl (w.heap.size + 1) rfl (withAct c (c.act ++ [a])) ⟨p4.a1, p4.c1, p4.a2, p4.c2, A6, n6⟩ rfl cl0 p30 Y7 ?_)
              | fail)
            refine bodyPost_ret (v := .tuple #[clV (withAct c (c.act ++ [a])) ⟨p4.a1, p4.c1, p4.a2, p4.c2, A6, n6⟩, .int .i64 0]) (res_cl Tryz.results25 _ _ (w.heap.size + 1) (withAct c (c.act ++ [a])) ⟨p4.a1, p4.c1, p4.a2, p4.c2, A6, n6⟩ _ rfl (Y7.out.set) rfl) rfl ⟨?_, below_setRow B7.out (by omega) _⟩
            rw [HN.out.1, HN.out.2]
            exact ⟨_, rfl, ⟨((R1.out.setCell (.inr rfl)).setRow (.inl rfl)).s, ((R2.out.setCell (.inr rfl)).setRow (.inl rfl)).s, ((R3.out.setCell (.inr rfl)).setRow (.inl rfl)).s⟩, CP6.out⟩
set_option maxHeartbeats 16000000 in
set_option maxRecDepth 100000 in
theorem ract_any (c : Cl) (p : P3) (a : ByteArray) (w : World) (hin : ClIn c p) (hC : ClAt w c p) (ha : a.size ≤ 9223372036854775807) :
    Calls Tryz.prog 26 #[clV c p, .string a] w fun e' w' => RetCl w' e' (actV c a) (actEr c a) ∧ Below w.heap.size w w' := by
  obtain ⟨i0, hi, hz0, hz1, hz2'⟩ := info_parts Tryz.info_s
  have B1 : Hid (Below w.heap.size w ((w.alloc (clO c p)).alloc (clO cl0 p30))) := Lib.hid (((Below.refl _ _).alloc (Nat.le_refl _) _).alloc (by simp) _)
  have X1 : Hid (ClBox ((w.alloc (clO c p)).alloc (clO cl0 p30)) w.heap.size c p) := Lib.hid ((ClBox.new w c p).below ((Below.refl _ _).alloc (Nat.le_refl _) _))
  have Y1 : Hid (ClBox ((w.alloc (clO c p)).alloc (clO cl0 p30)) (w.heap.size + 1) cl0 p30) := Lib.hid (by have h := ClBox.new (w.alloc (clO c p)) cl0 p30; simpa using h)
  have HC := Lib.hid hC
  have HI := Lib.hid hin
  clear hC hin
  obtain ⟨G, HG⟩ : ∃ G, Hid (actEr c a = G) := ⟨_, Lib.hid rfl⟩
  obtain ⟨C, HCC⟩ : ∃ C, Hid (actV c a = C) := ⟨_, Lib.hid rfl⟩
  obtain ⟨E, HE⟩ : ∃ E, Hid (checkE c = E) := ⟨_, Lib.hid rfl⟩
  obtain ⟨K, HK⟩ : ∃ K, Hid (cleanS a = K) := ⟨_, Lib.hid rfl⟩
  obtain ⟨M, HM⟩ : ∃ M, Hid (memB c.act a = M) := ⟨_, Lib.hid rfl⟩
  obtain ⟨su, HSU⟩ : ∃ s, Hid (c.subject = s) := ⟨_, Lib.hid rfl⟩
  have N0 : Hid (E ≠ 0 → G = E ∧ C = cl0) := Lib.hid (by rw [← HE.out, ← HG.out, ← HCC.out]; exact act0)
  have N1 : Hid (E = 0 → K = false → G = 5 ∧ C = cl0) := Lib.hid (by rw [← HE.out, ← HG.out, ← HCC.out, ← HK.out]; exact act1)
  have N2 : Hid (E = 0 → K = true → (a = su ∨ M = true) → G = 28 ∧ C = cl0) := Lib.hid (by rw [← HE.out, ← HG.out, ← HCC.out, ← HK.out, ← HM.out, ← HSU.out]; exact act2)
  have N3 : Hid (E = 0 → K = true → ¬ (a = su ∨ M = true) → 4 ≤ c.act.length → G = 3 ∧ C = cl0) := Lib.hid (by rw [← HE.out, ← HG.out, ← HCC.out, ← HK.out, ← HM.out, ← HSU.out]; exact act3)
  have N4 : Hid (E = 0 → K = true → ¬ (a = su ∨ M = true) → ¬ 4 ≤ c.act.length → G = 0 ∧ C = withAct c (c.act ++ [a])) := Lib.hid (by rw [← HE.out, ← HG.out, ← HCC.out, ← HK.out, ← HM.out, ← HSU.out]; exact act4)
  rw [HG.out, HCC.out]
  clear HG HCC
  go_enter Tryz.func26, Tryz.ntmps26
  go_wp2_with (first | (refine box_cl rfl _ rfl _ rfl c p rfl ?_) | (refine alloc_cl rfl _ rfl rfl ?_) | (refine load_cl rfl _ rfl _ rfl w.heap.size rfl c p X1 ?_) | fail)
  refine (rcheck_any c p _ HI.out (HC.out.below B1.out)).mono ?_
  rintro e0 w2 ⟨rfl, hb2⟩
  rw [HE.out]
  have hz2 : w.heap.size + 2 ≤ w2.heap.size := by have := hb2.size; simp at this; omega
  have B2 := Lib.hid (bthen B1.out hb2)
  have X2 := Lib.hid (X1.out.below hb2)
  have Y2 := Lib.hid (Y1.out.below hb2)
  clear hb2 B1 X1 Y1
  by_cases h0 : ¬ E = 0
  · have t0 : (E != 0) = true := by rw [bne_iff_ne]; exact h0
    have HN := Lib.hid (N0.out h0)
    clear h0
    go_wp2_with (first | (refine build_cl rfl _ rfl rfl ?_) | (refine store_cl rfl _ rfl _ _ rfl (w.heap.size + 1) rfl cl0 p30 rfl cl0 p30 Y2 ?_) | fail)
    refine bodyPost_ret (v := .tuple #[clV cl0 p30, .int .i64 E]) (res_cl Tryz.results26 _ _ (w.heap.size + 1) cl0 p30 _ rfl (Y2.out.set) rfl) rfl ⟨RetCl.zero _ HN.out, below_setRow B2.out (by omega) _⟩
  · have h0 := Decidable.not_not.1 h0
    have t0 : (E != 0) = false := by rw [h0]; rfl
    have HSM : Hid (ClSmall c) := Lib.hid (check_small (HE.out.trans h0))
    have N1b := Lib.hid (N1.out h0)
    have N2b := Lib.hid (N2.out h0)
    have N3b := Lib.hid (N3.out h0)
    have N4b := Lib.hid (N4.out h0)
    clear h0 N0 N1 N2 N3 N4
    have hl3 := HSM.out.l3
    go_wp2_with fail
    refine (rclean_any a _ ha).mono ?_
    rintro e0 wsame ⟨rfl, rfl⟩
    have B3 := B2
    have X3 := X2
    have Y3 := Y2
    clear B2 X2 Y2
    rw [HK.out]
    cases K with
    | false =>
      have HN := Lib.hid (N1b.out (by trivial))
      go_wp2_with (first | (refine build_cl rfl _ rfl rfl ?_) | (refine store_cl rfl _ rfl _ _ rfl (w.heap.size + 1) rfl cl0 p30 rfl cl0 p30 Y3 ?_) | fail)
      refine bodyPost_ret (v := .tuple #[clV cl0 p30, .int .i64 5]) (res_cl Tryz.results26 _ _ (w.heap.size + 1) cl0 p30 _ rfl (Y3.out.set) rfl) rfl ⟨RetCl.zero _ HN.out, below_setRow B3.out (by omega) _⟩
    | true =>
      have N2c := Lib.hid (N2b.out (by trivial))
      have N3c := Lib.hid (N3b.out (by trivial))
      have N4c := Lib.hid (N4b.out (by trivial))
      clear N1b N2b N3b N4b
      obtain ⟨_, _, x2, _, _, _, _, _, _, _, x10, _⟩ := X3.out.cells
      rw [HSU.out] at x2
      by_cases hs : a = su
      · have HN := Lib.hid (N2c.out (.inl hs))
        have t1 : (a.toList == su.toList) = true := by rw [hs]; simp
        clear hs x10
        go_wp2_with (first | (refine build_cl rfl _ rfl rfl ?_) | (refine store_cl rfl _ rfl _ _ rfl (w.heap.size + 1) rfl cl0 p30 rfl cl0 p30 Y3 ?_) | fail)
        refine bodyPost_ret (v := .tuple #[clV cl0 p30, .int .i64 28]) (res_cl Tryz.results26 _ _ (w.heap.size + 1) cl0 p30 _ rfl (Y3.out.set) rfl) rfl ⟨RetCl.zero _ HN.out, below_setRow B3.out (by omega) _⟩
      · have HNS := Lib.hid hs
        have t1 := str_ne hs
        clear hs
        go_wp2_with fail
        have HMM := HM
        refine (has_any c.act p.a3 p.c3 a _ (HC.out.below B3.out).act (by omega)).mono ?_
        rintro e0 wsame ⟨rfl, rfl⟩
        rw [HMM.out]
        cases M with
        | true =>
          have HN := Lib.hid (N2c.out (.inr (by trivial)))
          clear x2 x10
          go_wp2_with (first | (refine build_cl rfl _ rfl rfl ?_) | (refine store_cl rfl _ rfl _ _ rfl (w.heap.size + 1) rfl cl0 p30 rfl cl0 p30 Y3 ?_) | fail)
          refine bodyPost_ret (v := .tuple #[clV cl0 p30, .int .i64 28]) (res_cl Tryz.results26 _ _ (w.heap.size + 1) cl0 p30 _ rfl (Y3.out.set) rfl) rfl ⟨RetCl.zero _ HN.out, below_setRow B3.out (by omega) _⟩
        | false =>
          have HNO : Hid (¬ (a = su ∨ False)) := Lib.hid (by rintro (h | h); exact HNS.out h; exact h)
          by_cases hl : 4 ≤ c.act.length
          · have HN := Lib.hid (N3c.out (by first | exact (fun h => h.elim HNS.out (fun h => by cases h)) | simpa using HNS.out) hl)
            go_wp2_with (first | (refine build_cl rfl _ rfl rfl ?_) | (refine store_cl rfl _ rfl _ _ rfl (w.heap.size + 1) rfl cl0 p30 rfl cl0 p30 Y3 ?_) | fail)
            refine bodyPost_ret (v := .tuple #[clV cl0 p30, .int .i64 3]) (res_cl Tryz.results26 _ _ (w.heap.size + 1) cl0 p30 _ rfl (Y3.out.set) rfl) rfl ⟨RetCl.zero _ HN.out, below_setRow B3.out (by omega) _⟩
          · have HN := Lib.hid (N4c.out (by first | exact (fun h => h.elim HNS.out (fun h => by cases h)) | simpa using HNS.out) hl)
            have HAE : Hid (strVs (c.act ++ [a]) = strVs c.act ++ [strV a]) := Lib.hid (strVs_snoc _ _).symm
            have HLA : Hid ((c.act ++ [a]).length = c.act.length + 1) := Lib.hid (by simp)
            have OB : Hid (StrsN w2 p.a1 c.aud (fun i => i = w.heap.size + 1 ∨ i = w.heap.size)) := Lib.hid ((HC.out.aud.old (fun i hi => by rcases hi with h | h <;> omega)).below B3.out)
            have OC : Hid (StrsN w2 p.a2 c.sco (fun i => i = w.heap.size + 1 ∨ i = w.heap.size)) := Lib.hid ((HC.out.sco.old (fun i hi => by rcases hi with h | h <;> omega)).below B3.out)
            have HIC := Lib.hid (And.intro HI.out.l1 HI.out.l2)
            have BA : Hid (Below w2.heap.size w2 (w2.alloc (.cells #[] 9))) := Lib.hid ((Below.refl _ _).alloc (Nat.le_refl _) _)
            have OA := Lib.hid (own_nil w2 w2.heap.size (Nat.le_refl _) 9 1)
            have SA := Lib.hid ((HC.out.below B3.out).act.below BA.out)
            obtain ⟨ac, HAC⟩ : ∃ ac, Hid (c.act = ac) := ⟨_, Lib.hid rfl⟩
            obtain ⟨A3, HA3⟩ : ∃ A, Hid (p.a3 = A) := ⟨_, Lib.hid rfl⟩
            obtain ⟨n3, HN3⟩ : ∃ A, Hid (p.c3 = A) := ⟨_, Lib.hid rfl⟩
            rw [HAC.out] at HN HAE HLA hl hl3 x10 SA
            rw [HA3.out] at x10 SA
            rw [HN3.out] at x10
            have HFIN : Hid (∀ (W : World) (A : Option Addr) (n : Nat), OwnS W w2.heap.size A (ac ++ [a]) n → Below w2.heap.size w2 W →
                ClBox (W.setCell ⟨w.heap.size, 10, none⟩ (.slice A (ac ++ [a]).length n)) w.heap.size (withAct c (ac ++ [a])) ⟨p.a1, p.c1, p.a2, p.c2, A, n⟩ ∧ ClBox (W.setCell ⟨w.heap.size, 10, none⟩ (.slice A (ac ++ [a]).length n)) (w.heap.size + 1) cl0 p30 ∧ W.cell? ⟨w.heap.size, 10, none⟩ = some (.slice A3 ac.length n3) ∧ W.frozen? ⟨w.heap.size, 10, none⟩ = false ∧
                RetCl ((W.setCell ⟨w.heap.size, 10, none⟩ (.slice A (ac ++ [a]).length n)).setRow (w.heap.size + 1) (clA (withAct c (ac ++ [a])) ⟨p.a1, p.c1, p.a2, p.c2, A, n⟩)) (.returned (.tuple #[clV (withAct c (ac ++ [a])) ⟨p.a1, p.c1, p.a2, p.c2, A, n⟩, .int .i64 0])) C G ∧ Below w.heap.size w ((W.setCell ⟨w.heap.size, 10, none⟩ (.slice A (ac ++ [a]).length n)).setRow (w.heap.size + 1) (clA (withAct c (ac ++ [a])) ⟨p.a1, p.c1, p.a2, p.c2, A, n⟩))) := Lib.hid (fun W A n hO hb => by
              have x := X3.out.below hb
              have y := Y3.out.below hb
              have xa := x.cells.2.2.2.2.2.2.2.2.2.2.1
              rw [HAC.out, HA3.out, HN3.out] at xa
              refine ⟨x.act _ _ _, (heap_setCell_other _ _ _ _ (by show w.heap.size + 1 ≠ w.heap.size; omega)).trans y, xa, frozen_of_row W w.heap.size 10 _ _ x, ?_, below_setRow ((bthen B3.out hb).setCell (Nat.le_refl _) _) (by omega) _⟩
              rw [HN.out.1, HN.out.2]
              exact ⟨_, rfl, ⟨(((OB.out.below hb).setCell (.inr rfl)).setRow (.inl rfl)).s, (((OC.out.below hb).setCell (.inr rfl)).setRow (.inl rfl)).s, (((hO.new (N := fun i => i = w.heap.size + 1 ∨ i = w.heap.size) (fun i hi => by rcases hi with h | h <;> omega)).setCell (.inr rfl)).setRow (.inl rfl)).s⟩, HIC.out.1, HIC.out.2, hO.strs.2.1⟩)
            clear X3 Y3 B3 OB OC x2
            cases A3 with
            | none =>
              have e0 : ac = [] := by
                cases ac with
                | nil => rfl
                | cons x r => obtain ⟨b, o, e, _⟩ := SA.out 0 (by simp); cases e
              subst e0
              have x10' : (w2.alloc (.cells #[] 9)).cell? ⟨w.heap.size, 10, none⟩ = some (Value.slice none 0 n3) := (BA.out.cell (p := ⟨w.heap.size, 10, none⟩) (by show w.heap.size < _; omega)).trans x10
              have x10'' : _ = some (Value.slice none 0 n3) := x10
              clear x10 hl hl3
              go_wp2_with (first
                | (at_builtin; refine wpList_append_own _ rfl _ _ 22 rfl w2.heap.size 9 i0 (.string ByteArray.empty) 1 16 Tryz.underlying22 hi hz0 hz1 hz2' rfl (by decide) (.slice (some ⟨w2.heap.size, 0, none⟩) 0 0) 0 [] rfl (World.ownsRow.alloc OA.out _) ⟨w2.heap.size + 1, 0, none⟩ 1 1 [strV a] rfl rfl (one_at25 _ (strV a) 9 (w2.heap.size + 1) (by simp)) (by intro u hu; simp at hu; subst hu; rfl) (by unfold maxLen; omega) (by omega) (by simp; omega) ?_; intro v6 w6 ho6 hg6 _; obtain ⟨A6, n6, rfl, hO6⟩ := OwnS.form (l := [] ++ [a]) ho6 rfl; have hbb : Below w2.heap.size w2 w6 := (((BA.out.alloc (by simp) _).grown hg6 (by simp; omega) (fun q hq => (OA.out.lt q hq).1))); obtain ⟨z1, z2, z3, z4, z5, z6⟩ := HFIN.out w6 A6 n6 hO6 hbb; have Z1 := Lib.hid z1; have Z2 := Lib.hid z2; have Z5 := Lib.hid z5; have Z6 := Lib.hid z6; clear z1 z2 z5 z6 ho6 hg6 hO6 hbb HFIN OA x10' x10''; have hl1 : ([] ++ [a]).length = 1 := rfl; rw [hl1] at Z1 Z2 Z5 Z6; clear hl1)
                | (refine load_cl rfl _ rfl _ rfl w.heap.size rfl (withAct c ([] ++ [a])) ⟨p.a1, p.c1, p.a2, p.c2, A6, n6⟩ Z1 ?_)
                | (refine store_cl rfl _ rfl _ _ rfl (w.heap.size + 1) rfl (withAct c ([] ++ [a])) ⟨p.a1, p.c1, p.a2, p.c2, A6, n6⟩ rfl cl0 p30 Z2 ?_)
                | fail)
              refine bodyPost_ret (v := .tuple #[clV (withAct c ([] ++ [a])) ⟨p.a1, p.c1, p.a2, p.c2, A6, n6⟩, .int .i64 0]) (res_cl Tryz.results26 _ _ (w.heap.size + 1) (withAct c ([] ++ [a])) ⟨p.a1, p.c1, p.a2, p.c2, A6, n6⟩ _ rfl (Z2.out.set) rfl) rfl ⟨?_, Z6.out⟩
              exact Z5.out
            | some ad =>
              have x10' : (w2.alloc (.cells #[] 9)).cell? ⟨w.heap.size, 10, none⟩ = some (Value.slice (some ad) ac.length n3) := (BA.out.cell (p := ⟨w.heap.size, 10, none⟩) (by show w.heap.size < _; omega)).trans x10
              go_wp2_with (first
                | (at_builtin; refine wpList_append_own_at _ rfl _ _ 22 rfl w2.heap.size 9 i0 (.string ByteArray.empty) 1 16 Tryz.underlying22 hi hz0 hz1 hz2' rfl (by decide) (.slice (some ⟨w2.heap.size, 0, none⟩) 0 0) 0 [] rfl OA.out ad ac.length n3 (strVs ac) rfl (by simp [strVs]) (strs_src SA.out) (by intro u hu; simp [strVs] at hu; obtain ⟨x, _, rfl⟩ := hu; rfl) (by unfold maxLen; omega) (by omega) (by simp) ?_; intro v5 w5 ho5 hg5 _ hat5; rw [Nat.zero_add, List.nil_append] at ho5; obtain ⟨A5, n5, rfl, hO5⟩ := OwnS.form (l := ac) ho5 rfl; have O5 := Lib.hid hO5; have B5 : Hid (Below w2.heap.size w2 w5) := Lib.hid (BA.out.grown hg5 (by simp) (fun q hq => (OA.out.lt q hq).1)); have TK : Hid True := Lib.hid trivial; clear ho5 hg5 hat5 hO5 OA x10' x10 SA)
                | (at_builtin; clear TK; refine wpList_append_own _ rfl _ _ 22 rfl w2.heap.size 9 i0 (.string ByteArray.empty) 1 16 Tryz.underlying22 hi hz0 hz1 hz2' rfl (by decide) _ _ _ rfl (World.ownsRow.alloc O5.out _) ⟨w5.heap.size, 0, none⟩ 1 1 [strV a] rfl rfl (cell_one_new _ _ _) (by intro u hu; simp at hu; subst hu; rfl) (by unfold maxLen; omega) (by omega) (by have := B5.out.size; simp; omega) ?_; intro v6 w6 ho6 hg6 _; rw [← HAE.out] at ho6; obtain ⟨A6, n6, rfl, hO6⟩ := OwnS.form (l := ac ++ [a]) ho6 HLA.out.symm; have hbb : Below w2.heap.size w2 w6 := (((B5.out.alloc B5.out.size _).grown hg6 (by have := B5.out.size; simp; omega) (fun q hq => (World.ownsRow.lt O5.out q hq).1))); obtain ⟨z1, z2, z3, z4, z5, z6⟩ := HFIN.out w6 A6 n6 hO6 hbb; have Z1 := Lib.hid z1; have Z2 := Lib.hid z2; have Z5 := Lib.hid z5; have Z6 := Lib.hid z6; clear z1 z2 z5 z6 ho6 hg6 hO6 hbb HFIN; obtain ⟨l6, HL6⟩ : ∃ l, Hid ((ac ++ [a]).length = l) := ⟨_, Lib.hid rfl⟩; rw [HL6.out] at Z1 Z2 Z5 Z6; rw [HL6.out])
                | (refine load_cl rfl _ rfl _ rfl w.heap.size rfl (withAct c (ac ++ [a])) ⟨p.a1, p.c1, p.a2, p.c2, A6, n6⟩ Z1 ?_)
                | (refine store_cl rfl _ rfl _ _ rfl (w.heap.size + 1) rfl (withAct c (ac ++ [a])) ⟨p.a1, p.c1, p.a2, p.c2, A6, n6⟩ rfl cl0 p30 Z2 ?_)
                | fail)
              refine bodyPost_ret (v := .tuple #[clV (withAct c (ac ++ [a])) ⟨p.a1, p.c1, p.a2, p.c2, A6, n6⟩, .int .i64 0]) (res_cl Tryz.results26 _ _ (w.heap.size + 1) (withAct c (ac ++ [a])) ⟨p.a1, p.c1, p.a2, p.c2, A6, n6⟩ _ rfl (Z2.out.set) rfl) rfl ⟨?_, Z6.out⟩
              exact Z5.out
end Go.Proofs.YtpmikpijonccjaaGreatDoor

