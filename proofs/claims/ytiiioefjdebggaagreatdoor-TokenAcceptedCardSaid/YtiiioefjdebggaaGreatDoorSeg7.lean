/- Joined: ClmCheck. -/
import Derived.Test.YtiiioefjdebggaaGreatDoorSeg6
import Derived.IntWalk
import Derived.Deep.DeepCutAuto
/- claims.Check. -/
namespace Go.Proofs.YtiiioefjdebggaaGreatDoor
open Go.RowKit

theorem ret_i {a b : Int} (h : a = b) : Ending.returned (.int .i64 a) = .returned (.int .i64 b) := by rw [h]
theorem check_name {c : Cl} (h : nameB c = false) : checkE c = 5 := by rw [checkE, if_neg (by rw [h]; decide)]
theorem empty_facts {s : ByteArray} (h : s.size = 0) : s.toList.isEmpty = true ∧ s.toList = [] := by
  have e : s.toList = [] := by rw [Lib.toList_data]; exact List.eq_nil_of_length_eq_zero (by simpa using h)
  exact ⟨by rw [e]; rfl, e⟩
theorem full_facts {s : ByteArray} (h : ¬ s.size = 0) : s.toList.isEmpty = false := by
  rw [Lib.toList_data]
  cases hd : s.data.toList with
  | nil => exact absurd (by simpa using congrArg List.length hd) h
  | cons a l => rfl
theorem opt_cases (s : ByteArray) : (s.toList.isEmpty = false ∧ wordS s = false) ∨ s.toList.isEmpty = true ∨ (s.toList.isEmpty = false ∧ wordS s = true) := by
  by_cases h : s.size = 0
  · exact .inr (.inl (empty_facts h).1)
  · by_cases hw : wordS s = true
    · exact .inr (.inr ⟨full_facts h, hw⟩)
    · exact .inl ⟨full_facts h, by simpa using hw⟩
theorem opt_size (s : ByteArray) (h : s.toList.isEmpty = true) : s.size = 0 := by
  rw [Lib.toList_data, List.isEmpty_iff] at h
  have := congrArg List.length h
  simpa using this
theorem opt_bad {s : ByteArray} (h1 : s.toList.isEmpty = false) (h2 : wordS s = false) : optB s = false := by
  rw [optB, h2, Bool.or_false, decide_eq_false_iff_not]
  intro h
  rw [(empty_facts h).1] at h1; cases h1
theorem opt_good {s : ByteArray} (h : s.toList.isEmpty = true ∨ (s.toList.isEmpty = false ∧ wordS s = true)) : optB s = true := by
  rcases h with h | ⟨_, h⟩
  · rw [optB, decide_eq_true (opt_size s h)]; rfl
  · rw [optB, h, Bool.or_true]
theorem ScoAt.order' {l : List ByteArray} {k : Nat} (h : ScoAt l k) (h0 : 0 < k) (hk : k < l.length) (hw : wordS l[k] = true) (ho : ordB (l[k - 1]'(by omega)) l[k] = false) : scoF none l = 4 := by
  obtain ⟨j, rfl⟩ : ∃ j, k = j + 1 := ⟨k - 1, by omega⟩
  exact h.order hk hw ho
theorem ScoAt.next' {l : List ByteArray} {k : Nat} (h : ScoAt l k) (h0 : 0 < k) (hk : k < l.length) (hw : wordS l[k] = true) (ho : ordB (l[k - 1]'(by omega)) l[k] = true) : ScoAt l (k + 1) := by
  obtain ⟨j, rfl⟩ : ∃ j, k = j + 1 := ⟨k - 1, by omega⟩
  exact h.next hk hw ho
theorem check_aud {c : Cl} (h : nameB c = true) (h1 : audE c.aud ≠ 0) : checkE c = audE c.aud := by
  rw [checkE, if_pos h, listE, if_neg h1, if_neg h1]
theorem check_sco {c : Cl} (h : nameB c = true) (h1 : audE c.aud = 0) (h2 : scoE c.sco ≠ 0) : checkE c = scoE c.sco := by
  rw [checkE, if_pos h, listE, if_pos h1, if_neg h2, if_neg h2]
theorem check_act {c : Cl} (h : nameB c = true) (h1 : audE c.aud = 0) (h2 : scoE c.sco = 0) (h3 : actE c.act ≠ 0) : checkE c = actE c.act := by
  rw [checkE, if_pos h, listE, if_pos h1, if_pos h2, if_neg h3]
theorem check_rest {c : Cl} (h : nameB c = true) (h1 : audE c.aud = 0) (h2 : scoE c.sco = 0) (h3 : actE c.act = 0) : checkE c = if timeB c = true then (if 0 ≤ c.level ∧ c.level ≤ 3 then 0 else 27) else 2 := by
  rw [checkE, if_pos h, listE, if_pos h1, if_pos h2, if_pos h3]
set_option maxHeartbeats 16000000 in
set_option maxRecDepth 100000 in
theorem check_any (c : Cl) (p : P3) (w : World) (hin : ClIn c p) (hC : ClAt w c p) :
    Calls Tryz.prog 38 #[clV c p] w fun e w' => e = .returned (.int .i64 (checkE c)) ∧ Below w.heap.size w w' := by
  obtain ⟨kind, issuer, subject, client, tenant, id, session, nonce, aud, sco, act, issued, nb, exp, auth, level⟩ := c
  obtain ⟨a1, c1, a2, c2, a3, c3⟩ := p
  obtain ⟨s0, s1, s2, s3, s4, s5, s6, s7, l1, l2, l3, m1, m2, m3, z1, z2, z3, i0, i1, i2, i3, i4⟩ := hin
  simp only at s0 s1 s2 s3 s4 s5 s6 s7 l1 l2 l3 m1 m2 m3 z1 z2 z3 i0 i1 i2 i3 i4
  have HC := Lib.hid hC
  clear hC
  have HNB := Lib.hid (@check_name ⟨kind, issuer, subject, client, tenant, id, session, nonce, aud, sco, act, issued, nb, exp, auth, level⟩)
  have HNV : Hid (nameB ⟨kind, issuer, subject, client, tenant, id, session, nonce, aud, sco, act, issued, nb, exp, auth, level⟩ = (wordS kind && wordS client && wordS tenant && wordS id && optB session && optB nonce && cleanS issuer && cleanS subject)) := Lib.hid rfl
  have X1 : Hid (ClBox (w.alloc (.cells #[.string kind, .string issuer, .string subject, .string client, .string tenant, .string id, .string session, .string nonce, .slice a1 aud.length c1, .slice a2 sco.length c2, .slice a3 act.length c3, .int .i64 issued, .int .i64 nb, .int .i64 exp, .int .i64 auth, .int .i64 level] 25)) w.heap.size ⟨kind, issuer, subject, client, tenant, id, session, nonce, aud, sco, act, issued, nb, exp, auth, level⟩ ⟨a1, c1, a2, c2, a3, c3⟩) := Lib.hid (ClBox.new w ⟨kind, issuer, subject, client, tenant, id, session, nonce, aud, sco, act, issued, nb, exp, auth, level⟩ ⟨a1, c1, a2, c2, a3, c3⟩)
  have B1 : Hid (Below w.heap.size w (w.alloc (.cells #[.string kind, .string issuer, .string subject, .string client, .string tenant, .string id, .string session, .string nonce, .slice a1 aud.length c1, .slice a2 sco.length c2, .slice a3 act.length c3, .int .i64 issued, .int .i64 nb, .int .i64 exp, .int .i64 auth, .int .i64 level] 25))) := Lib.hid ((Below.refl _ _).alloc (Nat.le_refl _) _)
  have HKA := Lib.hid (@check_aud ⟨kind, issuer, subject, client, tenant, id, session, nonce, aud, sco, act, issued, nb, exp, auth, level⟩)
  have HKS := Lib.hid (@check_sco ⟨kind, issuer, subject, client, tenant, id, session, nonce, aud, sco, act, issued, nb, exp, auth, level⟩)
  have HKC := Lib.hid (@check_act ⟨kind, issuer, subject, client, tenant, id, session, nonce, aud, sco, act, issued, nb, exp, auth, level⟩)
  have HKR := Lib.hid (@check_rest ⟨kind, issuer, subject, client, tenant, id, session, nonce, aud, sco, act, issued, nb, exp, auth, level⟩)
  obtain ⟨V, HV⟩ : ∃ V, Hid (checkE ⟨kind, issuer, subject, client, tenant, id, session, nonce, aud, sco, act, issued, nb, exp, auth, level⟩ = V) := ⟨_, Lib.hid rfl⟩
  rw [HV.out] at HNB HKA HKS HKC HKR
  rw [HNV.out] at HNB
  clear HNV
  rw [HV.out]
  show Calls Tryz.prog 38 #[.agg #[.string kind, .string issuer, .string subject, .string client, .string tenant, .string id, .string session, .string nonce, .slice a1 aud.length c1, .slice a2 sco.length c2, .slice a3 act.length c3, .int .i64 issued, .int .i64 nb, .int .i64 exp, .int .i64 auth, .int .i64 level]] w _
  by_cases k0 : wordS kind = false
  · have hG : Hid (V = 5) := Lib.hid (HNB.out (by simp [k0]))
    go_enter Tryz.func38, Tryz.ntmps38
    go_wp2_with (first | (go_at_call 60; refine (word_any _ _ (by assumption)).mono ?_; rintro e wsame ⟨rfl, rfl⟩) | fail)
    go_ret
    exact ⟨ret_i hG.out.symm, B1.out⟩
  · have k0 : wordS kind = true := by simpa using k0
    by_cases k1 : wordS client = false
    · have hG : Hid (V = 5) := Lib.hid (HNB.out (by simp [k0, k1]))
      go_enter Tryz.func38, Tryz.ntmps38
      go_wp2_with (first | (go_at_call 60; refine (word_any _ _ (by assumption)).mono ?_; rintro e wsame ⟨rfl, rfl⟩) | fail)
      go_ret
      exact ⟨ret_i hG.out.symm, B1.out⟩
    · have k1 : wordS client = true := by simpa using k1
      by_cases k2 : wordS tenant = false
      · have hG : Hid (V = 5) := Lib.hid (HNB.out (by simp [k0, k1, k2]))
        go_enter Tryz.func38, Tryz.ntmps38
        go_wp2_with (first | (go_at_call 60; refine (word_any _ _ (by assumption)).mono ?_; rintro e wsame ⟨rfl, rfl⟩) | fail)
        go_ret
        exact ⟨ret_i hG.out.symm, B1.out⟩
      · have k2 : wordS tenant = true := by simpa using k2
        by_cases k3 : wordS id = false
        · have hG : Hid (V = 5) := Lib.hid (HNB.out (by simp [k0, k1, k2, k3]))
          go_enter Tryz.func38, Tryz.ntmps38
          go_wp2_with (first | (go_at_call 60; refine (word_any _ _ (by assumption)).mono ?_; rintro e wsame ⟨rfl, rfl⟩) | fail)
          go_ret
          exact ⟨ret_i hG.out.symm, B1.out⟩
        · have k3 : wordS id = true := by simpa using k3
          have HSE : Hid ((session.toList.isEmpty = false ∧ wordS session = false) ∨ session.toList.isEmpty = true ∨ (session.toList.isEmpty = false ∧ wordS session = true)) := Lib.hid (opt_cases session)
          have HNE : Hid ((nonce.toList.isEmpty = false ∧ wordS nonce = false) ∨ nonce.toList.isEmpty = true ∨ (nonce.toList.isEmpty = false ∧ wordS nonce = true)) := Lib.hid (opt_cases nonce)
          rcases HSE.out with ⟨q1, q2⟩ | hse
          · have hG : Hid (V = 5) := Lib.hid (HNB.out (by simp [k0, k1, k2, k3, opt_bad q1 q2]))
            go_enter Tryz.func38, Tryz.ntmps38
            go_wp2_with (first | (go_at_call 60; refine (word_any _ _ (by assumption)).mono ?_; rintro e wsame ⟨rfl, rfl⟩) | fail)
            go_ret
            exact ⟨ret_i hG.out.symm, B1.out⟩
          · have HSO : Hid (optB session = true) := Lib.hid (opt_good hse)
            rcases HNE.out with ⟨q3, q4⟩ | hne
            · have hG : Hid (V = 5) := Lib.hid (HNB.out (by simp [k0, k1, k2, k3, HSO.out, opt_bad q3 q4]))
              rcases hse with q1 | ⟨q1, q2⟩
              all_goals
                go_enter Tryz.func38, Tryz.ntmps38
                go_wp2_with (first | (go_at_call 60; refine (word_any _ _ (by assumption)).mono ?_; rintro e wsame ⟨rfl, rfl⟩) | fail)
                go_ret
                exact ⟨ret_i hG.out.symm, B1.out⟩
            · have HNO : Hid (optB nonce = true) := Lib.hid (opt_good hne)
              by_cases k4 : cleanS issuer = false
              · have hG : Hid (V = 5) := Lib.hid (HNB.out (by simp [k0, k1, k2, k3, HSO.out, HNO.out, k4]))
                rcases hse with q1 | ⟨q1, q2⟩ <;> rcases hne with q3 | ⟨q3, q4⟩
                all_goals
                  go_enter Tryz.func38, Tryz.ntmps38
                  go_wp2_with (first | (go_at_call 60; refine (word_any _ _ (by assumption)).mono ?_; rintro e wsame ⟨rfl, rfl⟩) | fail)
                  refine (clean_any issuer _ (by assumption)).mono ?_
                  rintro e w2 ⟨rfl, hb2⟩
                  rw [k4]
                  have B2 := Lib.hid (bthen B1.out hb2)
                  clear hb2
                  go_wp2_with fail
                  go_ret
                  exact ⟨ret_i hG.out.symm, B2.out⟩
              · have k4 : cleanS issuer = true := by simpa using k4
                by_cases k5 : cleanS subject = false
                · have hG : Hid (V = 5) := Lib.hid (HNB.out (by simp [k0, k1, k2, k3, HSO.out, HNO.out, k4, k5]))
                  rcases hse with q1 | ⟨q1, q2⟩ <;> rcases hne with q3 | ⟨q3, q4⟩
                  all_goals
                    go_enter Tryz.func38, Tryz.ntmps38
                    go_wp2_with (first | (go_at_call 60; refine (word_any _ _ (by assumption)).mono ?_; rintro e wsame ⟨rfl, rfl⟩) | fail)
                    refine (clean_any issuer _ (by assumption)).mono ?_
                    rintro e w2 ⟨rfl, hb2⟩
                    rw [k4]
                    have B2 := Lib.hid (bthen B1.out hb2)
                    have X2 : Hid (ClBox w2 _ _ _) := Lib.hid (X1.out.below hb2)
                    clear hb2
                    have x2 : _ = some (Value.string subject) := X2.out.cells.2.2.1
                    go_wp2_with fail
                    refine (clean_any subject _ (by assumption)).mono ?_
                    rintro e w3 ⟨rfl, hb3⟩
                    rw [k5]
                    have B3 := Lib.hid (bthen B2.out hb3)
                    have X3 := Lib.hid (X2.out.below hb3)
                    clear hb3 x2
                    go_wp2_with fail
                    go_ret
                    exact ⟨ret_i hG.out.symm, B3.out⟩
                · have k5 : cleanS subject = true := by simpa using k5
                  have HNA : Hid (nameB ⟨kind, issuer, subject, client, tenant, id, session, nonce, aud, sco, act, issued, nb, exp, auth, level⟩ = true) := Lib.hid (show (wordS kind && wordS client && wordS tenant && wordS id && optB session && optB nonce && cleanS issuer && cleanS subject) = true by simp [k0, k1, k2, k3, HSO.out, HNO.out, k4, k5])
                  go_enter Tryz.func38, Tryz.ntmps38
                  go_upto_region 1 with fail
                  go_cut [64] (fun s wx => s = .bool false ∧ Hid (Below w.heap.size w wx) ∧ Hid (ClBox wx w.heap.size ⟨kind, issuer, subject, client, tenant, id, session, nonce, aud, sco, act, issued, nb, exp, auth, level⟩ ⟨a1, c1, a2, c2, a3, c3⟩))
                  case first =>
                    rcases hse with q1 | ⟨q1, q2⟩ <;> rcases hne with q3 | ⟨q3, q4⟩
                    all_goals
                      go_wp2_with (first | (go_at_call 60; refine (word_any _ _ (by assumption)).mono ?_; rintro e wsame ⟨rfl, rfl⟩) | fail)
                      refine (clean_any issuer _ (by assumption)).mono ?_
                      rintro e w2 ⟨rfl, hb2⟩
                      rw [k4]
                      have B2 := Lib.hid (bthen B1.out hb2)
                      have X2 : Hid (ClBox w2 _ _ _) := Lib.hid (X1.out.below hb2)
                      clear hb2
                      have x2 : _ = some (Value.string subject) := X2.out.cells.2.2.1
                      go_wp2_with fail
                      refine (clean_any subject _ (by assumption)).mono ?_
                      rintro e w3 ⟨rfl, hb3⟩
                      rw [k5]
                      have B3 := Lib.hid (bthen B2.out hb3)
                      have X3 := Lib.hid (X2.out.below hb3)
                      clear hb3 x2
                      go_wp2_with fail
                      go_meet
                      exact ⟨rfl, B3, X3⟩
                  case rest =>
                    obtain ⟨rfl, B3, X3⟩ := hcut
                    clear X1 B1
                    obtain ⟨_, _, _, _, _, _, _, _, x8', x9', x10', x11', x12', x13', x14', x15'⟩ := X3.out.cells
                    have x8 : _ = some (Value.slice a1 aud.length c1) := x8'
                    have x9 : _ = some (Value.slice a2 sco.length c2) := x9'
                    have x10 : _ = some (Value.slice a3 act.length c3) := x10'
                    have x11 : _ = some (Value.int .i64 issued) := x11'
                    have x12 : _ = some (Value.int .i64 nb) := x12'
                    have x13 : _ = some (Value.int .i64 exp) := x13'
                    have x14 : _ = some (Value.int .i64 auth) := x14'
                    have x15 : _ = some (Value.int .i64 level) := x15'
                    clear x8' x9' x10' x11' x12' x13' x14' x15'
                    have C3 := Lib.hid (HC.out.below B3.out)
                    by_cases g0 : aud.length = 0
                    · have hG : Hid (V = 6) := Lib.hid (by rw [HKA.out HNA.out (by rw [audE, if_pos g0]; decide)]; rw [audE, if_pos g0])
                      have t0 : ((aud.length : Int) == 0) = true := by rw [beq_iff_eq]; omega
                      clear g0
                      go_wp2_with fail
                      go_ret
                      exact ⟨ret_i hG.out.symm, B3.out⟩
                    · have t0 : ((aud.length : Int) == 0) = false := by rw [beq_eq_false_iff_ne]; omega
                      by_cases g1 : 16 < aud.length
                      · have hG : Hid (V = 3) := Lib.hid (by rw [HKA.out HNA.out (by rw [audE, if_neg g0, if_pos g1]; decide)]; rw [audE, if_neg g0, if_pos g1])
                        go_wp2_with fail
                        go_ret
                        exact ⟨ret_i hG.out.symm, B3.out⟩
                      · have HAE : Hid (audE aud = audF [] aud) := Lib.hid (by rw [audE, if_neg g0, if_neg g1])
                        go_wp2_with fail
                        go_loop [76] (fun i => ∃ k : Nat, k ≤ aud.length ∧ i = .int .i64 k ∧ Hid (AudAt aud k)) (fun i => aud.length - (intOf i).toNat)
                        case atStart => exact ⟨0, Nat.zero_le _, rfl, Lib.hid (AudAt.zero aud)⟩
                        case round =>
                          obtain ⟨k, hk, rfl, HAT⟩ := hrel
                          by_cases hlt : k < aud.length
                          · obtain ⟨b, o, rfl, hcell⟩ := C3.out.aud k hlt
                            have hwz := z1 _ (List.getElem_mem hlt)
                            have HW5 := Lib.hid (HAT.out.word hlt)
                            have HW7 := Lib.hid (HAT.out.twice hlt)
                            have HWN := Lib.hid (HAT.out.next hlt)
                            have HCT := Lib.hid (fun s => contains_any aud k hk (some ⟨b, o, none⟩) c1 s _ C3.out.aud (by omega))
                            obtain ⟨x, HX⟩ : ∃ x, Hid (aud[k] = x) := ⟨_, Lib.hid rfl⟩
                            rw [HX.out] at hcell hwz HW5 HW7 HWN
                            have f1 : (0 : Int) ≤ (k : Int) := by omega
                            have f2 : (k : Int) ≤ (c1 : Int) := by omega
                            have f3 : k ≤ c1 := by omega
                            by_cases hw : wordS x = false
                            · have hG : Hid (V = 5) := Lib.hid (by rw [HKA.out HNA.out (by rw [HAE.out, HW5.out hw]; decide)]; show audE aud = 5; rw [HAE.out, HW5.out hw])
                              go_wp2_with fail
                              refine (word_any x _ hwz).mono ?_
                              rintro e wsame ⟨rfl, rfl⟩
                              rw [hw]
                              go_wp2_with fail
                              go_ret
                              exact ⟨ret_i hG.out.symm, B3.out⟩
                            · have hw : wordS x = true := by simpa using hw
                              by_cases ht : memB (aud.take k) x = true
                              · have hG : Hid (V = 7) := Lib.hid (by rw [HKA.out HNA.out (by rw [HAE.out, HW7.out hw ht]; decide)]; show audE aud = 7; rw [HAE.out, HW7.out hw ht])
                                go_wp2_with fail
                                refine (word_any x _ hwz).mono ?_
                                rintro e wsame ⟨rfl, rfl⟩
                                rw [hw]
                                go_wp2_with fail
                                refine (Calls.mono (HCT.out x) ?_)
                                rintro e wsame ⟨rfl, rfl⟩
                                rw [ht]
                                go_wp2_with fail
                                go_ret
                                exact ⟨ret_i hG.out.symm, B3.out⟩
                              · have HN := Lib.hid (HWN.out hw ht)
                                have ht : memB (aud.take k) x = false := by simpa using ht
                                go_wp2_with fail
                                refine (word_any x _ hwz).mono ?_
                                rintro e wsame ⟨rfl, rfl⟩
                                rw [hw]
                                go_wp2_with fail
                                refine (Calls.mono (HCT.out x) ?_)
                                rintro e wsame ⟨rfl, rfl⟩
                                rw [ht]
                                go_wp2_with fail
                                go_round
                                case rel => exact ⟨k + 1, hlt, by go_num, HN⟩
                                case measure => simp [intOf]; omega
                          · have hke : k = aud.length := by omega
                            have HA0 : Hid (audE aud = 0) := Lib.hid (by rw [HAE.out]; subst hke; exact HAT.out.done)
                            clear HAT HAE
                            by_cases g2 : 16 < sco.length
                            · have hG : Hid (V = 3) := Lib.hid (by rw [HKS.out HNA.out HA0.out (by rw [scoE, if_pos g2]; decide)]; rw [scoE, if_pos g2])
                              go_wp2_with fail
                              go_ret
                              exact ⟨ret_i hG.out.symm, B3.out⟩
                            · have HSE2 : Hid (scoE sco = scoF none sco) := Lib.hid (by rw [scoE, if_neg g2])
                              go_wp2_with fail
                              go_loop [98] (fun i => ∃ k : Nat, k ≤ sco.length ∧ i = .int .i64 k ∧ Hid (ScoAt sco k)) (fun i => sco.length - (intOf i).toNat)
                              case atStart => exact ⟨0, Nat.zero_le _, rfl, Lib.hid (ScoAt.zero sco)⟩
                              case round =>
                                obtain ⟨k, hk, rfl, HST⟩ := hrel
                                by_cases hlt : k < sco.length
                                · obtain ⟨b, o, rfl, hcell⟩ := C3.out.sco k hlt
                                  have hwz := z2 _ (List.getElem_mem hlt)
                                  have HW5 := Lib.hid (HST.out.word hlt)
                                  have HFI := Lib.hid (fun (h : k = 0) => show wordS sco[k] = true → ScoAt sco (k + 1) by subst h; exact HST.out.first hlt)
                                  have HOR := Lib.hid (fun h0 => HST.out.order' h0 hlt)
                                  have HNX := Lib.hid (fun h0 => HST.out.next' h0 hlt)
                                  obtain ⟨x, HX⟩ : ∃ x, Hid (sco[k] = x) := ⟨_, Lib.hid rfl⟩
                                  rw [HX.out] at hcell hwz HW5 HFI HOR HNX
                                  by_cases hw : wordS x = false
                                  · have hG : Hid (V = 5) := Lib.hid (by rw [HKS.out HNA.out HA0.out (by rw [HSE2.out, HW5.out hw]; decide)]; show scoE sco = 5; rw [HSE2.out, HW5.out hw])
                                    go_wp2_with fail
                                    refine (word_any x _ hwz).mono ?_
                                    rintro e wsame ⟨rfl, rfl⟩
                                    rw [hw]
                                    go_wp2_with fail
                                    go_ret
                                    exact ⟨ret_i hG.out.symm, B3.out⟩
                                  · have hw : wordS x = true := by simpa using hw
                                    by_cases hk0 : k = 0
                                    · have HN := Lib.hid (HFI.out hk0 hw)
                                      subst hk0
                                      rw [Nat.add_zero] at hcell
                                      go_wp2_with fail
                                      refine (word_any x _ hwz).mono ?_
                                      rintro e wsame ⟨rfl, rfl⟩
                                      rw [hw]
                                      go_wp2_with fail
                                      go_round
                                      case rel => exact ⟨1, hlt, rfl, HN⟩
                                      case measure => simp [intOf]; omega
                                    · have h0 : 0 < k := by omega
                                      obtain ⟨b', o', hbo, hprev'⟩ := C3.out.sco (k - 1) (show k - 1 < sco.length by omega)
                                      injection hbo with hbo
                                      injection hbo with hb1 hb2
                                      subst hb1
                                      subst hb2
                                      obtain ⟨y, HY⟩ : ∃ y, Hid (sco[k - 1]'(by omega) = y) := ⟨_, Lib.hid rfl⟩
                                      have hprev : _ = some (Value.string y) := hprev'.trans (by rw [HY.out])
                                      have HOR2 := Lib.hid (HOR.out h0 hw)
                                      have HNX2 := Lib.hid (HNX.out h0 hw)
                                      rw [HY.out] at HOR2 HNX2
                                      clear hprev'
                                      have f1 : IntKind.i64.wrap ((k : Int) - 1) = (k : Int) - 1 := IntWalk.i64_in _ (by omega)
                                      have f2 : ((k : Int) - 1).toNat = k - 1 := by omega
                                      have f3 : (0 : Int) ≤ (k : Int) - 1 := by omega
                                      have f4 : (1 : Int) ≤ (k : Int) := by omega
                                      have f5 : (k : Int) - 1 < (sco.length : Int) := by omega
                                      have f6 : decide ((0 : Int) < (k : Int)) = true := decide_eq_true (by omega)
                                      by_cases ho : ordB y x = true
                                      · have HN := Lib.hid (HNX2.out ho)
                                        have b0 : Op.bytesLess y.toList x.toList = true := ho
                                        clear ho
                                        go_wp2_with fail
                                        refine (word_any x _ hwz).mono ?_
                                        rintro e wsame ⟨rfl, rfl⟩
                                        rw [hw]
                                        go_wp2_with fail
                                        go_round
                                        case rel => exact ⟨k + 1, hlt, by go_num, HN⟩
                                        case measure => simp [intOf]; omega
                                      · have ho : ordB y x = false := by simpa using ho
                                        have b0 : Op.bytesLess y.toList x.toList = false := ho
                                        have hG : Hid (V = 4) := Lib.hid (by rw [HKS.out HNA.out HA0.out (by rw [HSE2.out, HOR2.out ho]; decide)]; show scoE sco = 4; rw [HSE2.out, HOR2.out ho])
                                        clear ho
                                        go_wp2_with fail
                                        refine (word_any x _ hwz).mono ?_
                                        rintro e wsame ⟨rfl, rfl⟩
                                        rw [hw]
                                        go_wp2_with fail
                                        go_ret
                                        exact ⟨ret_i hG.out.symm, B3.out⟩
                                · have hke : k = sco.length := by omega
                                  have HS0 : Hid (scoE sco = 0) := Lib.hid (by rw [HSE2.out]; subst hke; exact HST.out.done)
                                  clear HST HSE2
                                  by_cases g3 : 4 < act.length
                                  · have hG : Hid (V = 3) := Lib.hid (by rw [HKC.out HNA.out HA0.out HS0.out (by rw [actE, if_pos g3]; decide)]; rw [actE, if_pos g3])
                                    go_wp2_with fail
                                    go_ret
                                    exact ⟨ret_i hG.out.symm, B3.out⟩
                                  · have HCE2 : Hid (actE act = actF act) := Lib.hid (by rw [actE, if_neg g3])
                                    go_wp2_with fail
                                    clear x8 x9 x10 x11 x12 x13 x14 x15
                                    go_loopw [126] (fun i wr => ∃ k : Nat, k ≤ act.length ∧ i = .int .i64 k ∧ Hid (ActAt act k) ∧ Hid (Below wc.heap.size wc wr)) (fun i _ => act.length - (intOf i).toNat)
                                    case atStart => exact ⟨0, Nat.zero_le _, rfl, Lib.hid (ActAt.zero act), Lib.hid (Below.refl _ _)⟩
                                    case round =>
                                      obtain ⟨k, hk, rfl, HAC, HBR⟩ := hrel
                                      by_cases hlt : k < act.length
                                      · obtain ⟨b, o, rfl, hcell⟩ := (C3.out.act.below HBR.out) k hlt
                                        have hwz := z3 _ (List.getElem_mem hlt)
                                        have HW5 := Lib.hid (HAC.out.bad hlt)
                                        have HN1 := Lib.hid (HAC.out.next hlt)
                                        obtain ⟨x, HX⟩ : ∃ x, Hid (act[k] = x) := ⟨_, Lib.hid rfl⟩
                                        rw [HX.out] at hcell hwz HW5 HN1
                                        go_wp2_with fail
                                        refine (clean_any x _ hwz).mono ?_
                                        rintro e w5 ⟨rfl, hb5⟩
                                        have HB5 := Lib.hid (bthen HBR.out hb5)
                                        clear hb5
                                        by_cases hw : cleanS x = false
                                        · have hG : Hid (V = 5) := Lib.hid (by rw [HKC.out HNA.out HA0.out HS0.out (by rw [HCE2.out, HW5.out hw]; decide)]; show actE act = 5; rw [HCE2.out, HW5.out hw])
                                          rw [hw]
                                          go_wp2_with fail
                                          go_ret
                                          exact ⟨ret_i hG.out.symm, bthen B3.out HB5.out⟩
                                        · have hw : cleanS x = true := by simpa using hw
                                          have HN2 := Lib.hid (HN1.out hw)
                                          rw [hw]
                                          go_wp2_with fail
                                          go_roundw
                                          case rel => exact ⟨k + 1, hlt, by go_num, HN2, HB5⟩
                                          case measure => simp [intOf]; omega
                                      · have hke : k = act.length := by omega
                                        have HC0 : Hid (actE act = 0) := Lib.hid (by rw [HCE2.out]; subst hke; exact HAC.out.done)
                                        have HKR2 := Lib.hid (HKR.out HNA.out HA0.out HS0.out HC0.out)
                                        have B5 := Lib.hid (bthen B3.out HBR.out)
                                        obtain ⟨_, _, _, _, _, _, _, _, _, _, _, x11', x12', x13', x14', x15'⟩ := (X3.out.below HBR.out).cells
                                        have x11 : _ = some (Value.int .i64 issued) := x11'
                                        have x12 : _ = some (Value.int .i64 nb) := x12'
                                        have x13 : _ = some (Value.int .i64 exp) := x13'
                                        have x14 : _ = some (Value.int .i64 auth) := x14'
                                        have x15 : _ = some (Value.int .i64 level) := x15'
                                        clear x11' x12' x13' x14' x15' HAC
                                        have HKR3 : Hid (V = if (validT issued && validT nb && validT exp && validT auth && decide (issued ≤ exp ∧ nb ≤ exp)) = true then (if 0 ≤ level ∧ level ≤ 3 then 0 else 27) else 2) := Lib.hid HKR2.out
                                        clear HKR2 HKR HKC HKS HKA HNB
                                        by_cases v0 : validT issued = false
                                        · have hG : Hid (V = 2) := Lib.hid (by rw [HKR3.out]; simp [v0])
                                          go_wp2_with (first | (go_at_call 81; refine (cvalid_any _ _).mono ?_; rintro e wsame ⟨rfl, rfl⟩) | fail)
                                          go_ret
                                          exact ⟨ret_i hG.out.symm, B5.out⟩
                                        · have v0 : validT issued = true := by simpa using v0
                                          by_cases v1 : validT nb = false
                                          · have hG : Hid (V = 2) := Lib.hid (by rw [HKR3.out]; simp [v0, v1])
                                            go_wp2_with (first | (go_at_call 81; refine (cvalid_any _ _).mono ?_; rintro e wsame ⟨rfl, rfl⟩) | fail)
                                            go_ret
                                            exact ⟨ret_i hG.out.symm, B5.out⟩
                                          · have v1 : validT nb = true := by simpa using v1
                                            by_cases v2 : validT exp = false
                                            · have hG : Hid (V = 2) := Lib.hid (by rw [HKR3.out]; simp [v0, v1, v2])
                                              go_wp2_with (first | (go_at_call 81; refine (cvalid_any _ _).mono ?_; rintro e wsame ⟨rfl, rfl⟩) | fail)
                                              go_ret
                                              exact ⟨ret_i hG.out.symm, B5.out⟩
                                            · have v2 : validT exp = true := by simpa using v2
                                              by_cases v3 : validT auth = false
                                              · have hG : Hid (V = 2) := Lib.hid (by rw [HKR3.out]; simp [v0, v1, v2, v3])
                                                go_wp2_with (first | (go_at_call 81; refine (cvalid_any _ _).mono ?_; rintro e wsame ⟨rfl, rfl⟩) | fail)
                                                go_ret
                                                exact ⟨ret_i hG.out.symm, B5.out⟩
                                              · have v3 : validT auth = true := by simpa using v3
                                                by_cases o1 : exp < issued
                                                · have hG : Hid (V = 2) := Lib.hid (by rw [HKR3.out]; rw [if_neg (by simp [v0, v1, v2, v3]; omega)])
                                                  go_wp2_with (first | (go_at_call 81; refine (cvalid_any _ _).mono ?_; rintro e wsame ⟨rfl, rfl⟩) | fail)
                                                  go_ret
                                                  exact ⟨ret_i hG.out.symm, B5.out⟩
                                                · by_cases o2 : exp < nb
                                                  · have hG : Hid (V = 2) := Lib.hid (by rw [HKR3.out]; rw [if_neg (by simp [v0, v1, v2, v3]; omega)])
                                                    go_wp2_with (first | (go_at_call 81; refine (cvalid_any _ _).mono ?_; rintro e wsame ⟨rfl, rfl⟩) | fail)
                                                    go_ret
                                                    exact ⟨ret_i hG.out.symm, B5.out⟩
                                                  · have HKR4 : Hid (V = if 0 ≤ level ∧ level ≤ 3 then 0 else 27) := Lib.hid (by rw [HKR3.out, if_pos (by simp [v0, v1, v2, v3]; omega)])
                                                    by_cases g5 : level < 0
                                                    · have hG : Hid (V = 27) := Lib.hid (by rw [HKR4.out]; rw [if_neg (by omega)])
                                                      go_wp2_with (first | (go_at_call 81; refine (cvalid_any _ _).mono ?_; rintro e wsame ⟨rfl, rfl⟩) | fail)
                                                      go_ret
                                                      exact ⟨ret_i hG.out.symm, B5.out⟩
                                                    · by_cases g6 : 3 < level
                                                      · have hG : Hid (V = 27) := Lib.hid (by rw [HKR4.out]; rw [if_neg (by omega)])
                                                        go_wp2_with (first | (go_at_call 81; refine (cvalid_any _ _).mono ?_; rintro e wsame ⟨rfl, rfl⟩) | fail)
                                                        go_ret
                                                        exact ⟨ret_i hG.out.symm, B5.out⟩
                                                      · have hG : Hid (V = 0) := Lib.hid (by rw [HKR4.out]; rw [if_pos (by omega)])
                                                        go_wp2_with (first | (go_at_call 81; refine (cvalid_any _ _).mono ?_; rintro e wsame ⟨rfl, rfl⟩) | fail)
                                                        go_ret
                                                        exact ⟨ret_i hG.out.symm, B5.out⟩
end Go.Proofs.YtiiioefjdebggaaGreatDoor

