/- Joined: KeyRCheck, KeyRCheck2, KeyRSign, ClmRVals, ClmRNames. -/
import Derived.Test.YtiiioefjdebggaaGreatDoorSeg8
import Derived.Test.YtiiioefjdebggaaGreatDoorSeg1
import Derived.Test.YtiiioefjdebggaaGreatDoorSeg6
import Derived.Deep.RegionHeld3
import Derived.Test.YtiiioefjdebggaaGreatDoorSeg5
import Derived.BigQuiet
import Derived.Test.YtiiioefjdebggaaGreatDoorSeg4
import Derived.Test.YtiiioefjdebggaaGreatDoorSeg3
import Derived.Deep.AppendLies
import Derived.Test.YtiiioefjdebggaaGreatDoorSeg7
/- identityref24.Check. -/
namespace Go.Proofs.YtiiioefjdebggaaGreatDoor
open Go.RowKit

theorem win_cases (k : Ky) : winB k = false ∧ (k.af < 0 ∨ (0 ≤ k.af ∧ k.sf < k.af) ∨ (0 ≤ k.af ∧ k.af ≤ k.sf ∧ k.su < k.sf) ∨ (0 ≤ k.af ∧ k.af ≤ k.sf ∧ k.sf ≤ k.su ∧ k.au < k.su) ∨ (0 ≤ k.af ∧ k.af ≤ k.sf ∧ k.sf ≤ k.su ∧ k.su ≤ k.au ∧ 1099511627776 < k.au) ∨ (0 ≤ k.af ∧ k.af ≤ k.sf ∧ k.sf ≤ k.su ∧ k.su ≤ k.au ∧ k.au ≤ 1099511627776 ∧ k.au ≤ k.af)) ∨ winB k = true ∧ 0 ≤ k.af ∧ k.af ≤ k.sf ∧ k.sf ≤ k.su ∧ k.su ≤ k.au ∧ k.au ≤ 1099511627776 ∧ k.af < k.au := by
  by_cases h : 0 ≤ k.af ∧ k.af ≤ k.sf ∧ k.sf ≤ k.su ∧ k.su ≤ k.au ∧ k.au ≤ 1099511627776 ∧ k.af < k.au
  · exact .inr ⟨decide_eq_true h, h⟩
  · exact .inl ⟨decide_eq_false h, by omega⟩
set_option maxHeartbeats 4000000 in
set_option maxRecDepth 100000 in
theorem windows_any (k : Ky) (w : World) :
    Calls Tryz.prog 86 #[kyV k] w fun e w' => e = .returned (.bool (winB k)) ∧ Below w.heap.size w w' := by
  have HC := Lib.hid (win_cases k)
  have X1 : Hid (KyBox (w.alloc (kyO k)) w.heap.size k) := Lib.hid (KyBox.new w k)
  have B1 : Hid (Below w.heap.size w (w.alloc (kyO k))) := Lib.hid ((Below.refl _ _).alloc (Nat.le_refl _) _)
  obtain ⟨q0, q1, q2, q3, q4, q5⟩ := X1.out.cells
  obtain ⟨V, HV⟩ : ∃ V, Hid (winB k = V) := ⟨_, Lib.hid rfl⟩
  obtain ⟨W1, HW1⟩ : ∃ W, Hid (w.alloc (kyO k) = W) := ⟨_, Lib.hid rfl⟩
  obtain ⟨g, HG⟩ : ∃ g, Hid (w.heap.size = g) := ⟨_, Lib.hid rfl⟩
  rw [HV.out] at HC
  rw [HV.out]
  rw [HW1.out, HG.out] at q0 q1 q2 q3 q4 q5
  rw [HW1.out] at B1
  clear X1
  obtain ⟨a, HA⟩ : ∃ a, Hid (k.af = a) := ⟨_, Lib.hid rfl⟩
  obtain ⟨b, HB⟩ : ∃ a, Hid (k.sf = a) := ⟨_, Lib.hid rfl⟩
  obtain ⟨c, HCc⟩ : ∃ a, Hid (k.su = a) := ⟨_, Lib.hid rfl⟩
  obtain ⟨d, HD⟩ : ∃ a, Hid (k.au = a) := ⟨_, Lib.hid rfl⟩
  rw [HA.out, HB.out, HCc.out, HD.out] at HC
  rw [HB.out] at q2
  rw [HCc.out] at q3
  rw [HA.out] at q4
  rw [HD.out] at q5
  rcases HC.out with ⟨hv, h⟩ | ⟨hv, h1, h2, h3, h4, h5, h6⟩
  · have HVV := Lib.hid hv
    clear hv HC
    rcases h with h | ⟨h1, h⟩ | ⟨h1, h2, h⟩ | ⟨h1, h2, h3, h⟩ | ⟨h1, h2, h3, h4, h⟩ | ⟨h1, h2, h3, h4, h5, h⟩
    all_goals
      go_enter Tryz.func86, Tryz.ntmps86
      go_upto_region 1 with (first | (refine box_ky rfl _ rfl _ rfl k rfl ?_; rw [HW1.out, HG.out]) | fail)
      go_wp2_with fail
      go_ret
      exact ⟨ret_bool (HVV.out.trans (by first | rfl | (rw [decide_eq_false (by omega)]))).symm, B1.out⟩
  · have HVV := Lib.hid hv
    clear hv HC
    go_enter Tryz.func86, Tryz.ntmps86
    go_upto_region 1 with (first | (refine box_ky rfl _ rfl _ rfl k rfl ?_; rw [HW1.out, HG.out]) | fail)
    go_wp2_with fail
    go_ret
    exact ⟨ret_bool HVV.out.symm, B1.out⟩
end Go.Proofs.YtiiioefjdebggaaGreatDoor

/- identityref24.Check over the ring. -/
namespace Go.Proofs.YtiiioefjdebggaaGreatDoor
open Go.RowKit

/-- The first k of the first i keys have another identifier. -/
def NoId (l : List Ky) (i k : Nat) (id : ByteArray) : Prop := ∀ j, (h : j < l.length) → j < i → j < k → l[j].id ≠ id
theorem NoId.next {l : List Ky} {i k : Nat} {id : ByteArray} (h : NoId l i k id) (hk : k < l.length) (hne : l[k].id ≠ id) : NoId l i (k + 1) id := by
  intro j h1 h2 h3
  rcases Nat.lt_succ_iff_lt_or_eq.1 h3 with h4 | rfl
  · exact h j h1 h2 h4
  · exact hne
theorem NoId.done {l : List Ky} {i : Nat} {id : ByteArray} (h : NoId l i i id) : hasK (l.take i) id = false := by
  refine hasK_no (fun j hj => ?_)
  rw [List.length_take] at hj
  rw [List.getElem_take]
  exact h j (by omega) (by omega) (by omega)
set_option maxHeartbeats 8000000 in
set_option maxRecDepth 100000 in
theorem rkcheck_any (l : List Ky) (A : Option Addr) (c : Nat) (w : World) (hS : KysAt w A l) (hl : l.length ≤ 9223372036854775807) (hin : ∀ x ∈ l, KyIn x) :
    Calls Tryz.prog 43 #[.slice A l.length c] w fun e w' => e = .returned (.int .i64 (keysE l)) ∧ Below w.heap.size w w' := by
  by_cases h16 : 16 < l.length
  · have HV : Hid (keysE l = 3) := Lib.hid (by rw [keysE, if_pos h16])
    go_enter Tryz.func43, Tryz.ntmps43
    go_wp2_with fail
    go_ret
    exact ⟨ret_int HV.out.symm, Below.refl _ _⟩
  · have HV : Hid (keysE l = kysF [] l) := Lib.hid (by rw [keysE, if_neg h16])
    have HS := Lib.hid hS
    have HI := Lib.hid hin
    have hl16 : l.length ≤ 16 := by omega
    clear hS hin h16
    go_enter Tryz.func43, Tryz.ntmps43
    go_wp2_with fail
    go_loopw [3, 4] (fun i _ wr => ∃ k : Nat, k ≤ l.length ∧ i = .int .i64 k ∧ Hid (KysLoop l k) ∧ Hid (Below w.heap.size w wr)) (fun i _ _ => l.length - (intOf i).toNat)
    case atStart => exact ⟨0, Nat.zero_le _, rfl, Lib.hid (KysLoop.zero l), Lib.hid (Below.refl _ _)⟩
    case round =>
      obtain ⟨i, hi, rfl, HL, BR⟩ := hrel
      by_cases hlt : i < l.length
      · obtain ⟨b, o, rfl, hat⟩ := (HS.out.below BR.out).at i hlt
        have HAT := Lib.hid hat
        have HB := Lib.hid (HL.out.bad hlt)
        have HN := Lib.hid (HL.out.next hlt)
        have HE1 := Lib.hid (@kyE_word (l.take i) l[i])
        have HE2 := Lib.hid (@kyE_clean (l.take i) l[i])
        have HE3 := Lib.hid (@kyE_twice (l.take i) l[i])
        have HE4 := Lib.hid (@kyE_win (l.take i) l[i])
        have HE5 := Lib.hid (@kyE_mk (l.take i) l[i])
        have HIX := Lib.hid (HI.out _ (List.getElem_mem hlt))
        have HTK : Hid (∀ (k : Nat) (hk : k < l.length), k < i → l[k].id = l[i].id → hasK (l.take i) l[i].id = true) := Lib.hid (fun k hk hki h => hasK_yes (l := l.take i) k (by rw [List.length_take]; omega) (by rw [List.getElem_take]; exact h))
        have HND := Lib.hid (@NoId.done l i l[i].id)
        obtain ⟨x, HX⟩ : ∃ x, Hid (l[i] = x) := ⟨_, Lib.hid rfl⟩
        rw [HX.out] at HAT HE1 HE2 HE3 HE4 HE5 HB HN HIX HTK HND
        obtain ⟨P, HP⟩ : ∃ P, Hid (l.take i = P) := ⟨_, Lib.hid rfl⟩
        rw [HP.out] at HE1 HE2 HE3 HE4 HE5 HB HN HTK HND
        clear hat
        have hs0 := HIX.out.s0
        have hs1 := HIX.out.s1
        have c0 := HAT.out.c0
        have c1 := HAT.out.c1
        have i0 : (0 : Int) ≤ (i : Int) := by omega
        have i1 : (i : Int) < (l.length : Int) := by omega
        go_wp2_with fail
        refine (rword_any x.id wr hs0).mono ?_
        rintro e wsame ⟨rfl, rfl⟩
        cases hw : wordS x.id with
        | false =>
          have HV2 := Lib.hid (HE1.out hw)
          have HV3 := Lib.hid ((HB.out (by rw [HV2.out]; decide)).trans HV2.out)
          clear hw
          go_wp2_with fail
          go_ret
          exact ⟨ret_int (by rw [HV.out, HV3.out]), BR.out⟩
        | true =>
          have HWT := Lib.hid hw
          clear hw
          go_wp2_with fail
          refine (rclean_any x.sec wr hs1).mono ?_
          rintro e wsame ⟨rfl, rfl⟩
          cases hc : cleanS x.sec with
          | false =>
            have HV2 := Lib.hid (HE2.out HWT.out hc)
            have HV3 := Lib.hid ((HB.out (by rw [HV2.out]; decide)).trans HV2.out)
            clear hc
            go_wp2_with fail
            go_ret
            exact ⟨ret_int (by rw [HV.out, HV3.out]), BR.out⟩
          | true =>
            have HCT := Lib.hid hc
            clear hc c0 c1
            go_wp2_with fail
            go_loopw [4] (fun j w2 => ∃ k : Nat, k ≤ i ∧ j = .int .i64 k ∧ Hid (NoId l i k x.id) ∧ Hid (Below wr.heap.size wr w2)) (fun j _ => i - (intOf j).toNat)
            case atStart => exact ⟨0, Nat.zero_le _, rfl, Lib.hid (fun _ _ _ h => absurd h (Nat.not_lt_zero _)), Lib.hid (Below.refl _ _)⟩
            case round =>
              obtain ⟨k, hk, rfl, HNI, B2⟩ := hrel
              by_cases hki : k < i
              · have hkl : k < l.length := by omega
                have B2w := Lib.hid (bthen BR.out B2.out)
                obtain ⟨b', o', hA, hat⟩ := (HS.out.below B2w.out).at k hkl
                injection hA with hA
                injection hA with hA1 hA2
                subst hA1
                subst hA2
                have HATk := Lib.hid hat
                have hxi := HAT.out.below B2.out
                have c0 := hxi.c0
                have d0 := HATk.out.c0
                have HNX := Lib.hid (fun h => HNI.out.next hkl h)
                have HTW := Lib.hid (HTK.out k hkl hki)
                obtain ⟨y, HY⟩ : ∃ y, Hid (l[k].id = y) := ⟨_, Lib.hid rfl⟩
                rw [HY.out] at d0 HNX HTW
                clear hat hxi
                have k0 : (0 : Int) ≤ (k : Int) := by omega
                have k1 : (k : Int) < (l.length : Int) := by omega
                have k2 : (k : Int) < (i : Int) := by omega
                by_cases hyx : y = x.id
                · have HV2 := Lib.hid (HE3.out HWT.out HCT.out (HTW.out hyx))
                  have HV3 := Lib.hid ((HB.out (by rw [HV2.out]; decide)).trans HV2.out)
                  have t1 : (y.toList == x.id.toList) = true := by rw [hyx]; simp
                  clear hyx
                  go_wp2_with fail
                  go_quiet (fail)
                  go_wp2_with fail
                  go_ret
                  exact ⟨ret_int (by rw [HV.out, HV3.out]), below_drewN' B2w.out _⟩
                · have HNY := Lib.hid (HNX.out hyx)
                  have t1 : (y.toList == x.id.toList) = false := str_ne hyx
                  have B2D := Lib.hid B2.out
                  clear hyx
                  go_wp2_with fail
                  go_quiet (fail)
                  go_wp2_with fail
                  go_roundw
                  case rel => exact ⟨k + 1, hki, by go_num, HNY, Lib.hid (below_drewN' B2D.out _)⟩
                  case measure => simp [intOf]; omega
              · obtain rfl : k = i := by omega
                have HHN := Lib.hid (HND.out HNI.out)
                have B2w := Lib.hid (bthen BR.out B2.out)
                have HATk := Lib.hid (HAT.out.below B2.out)
                go_wp2_with (first | (refine load_kyAt rfl _ rfl _ rfl b (o + k * 6) rfl x HATk ?_) | fail)
                refine (windows_any x _).mono ?_
                rintro e w3 ⟨rfl, hb3⟩
                have B3 := Lib.hid (bthen B2w.out hb3)
                clear hb3
                cases hwb : winB x with
                | false =>
                  have HV2 := Lib.hid (HE4.out HWT.out HCT.out HHN.out hwb)
                  have HV3 := Lib.hid ((HB.out (by rw [HV2.out]; decide)).trans HV2.out)
                  clear hwb
                  go_wp2_with fail
                  go_ret
                  exact ⟨ret_int (by rw [HV.out, HV3.out]), B3.out⟩
                | true =>
                  have HNN := Lib.hid (HN.out (HE5.out HWT.out HCT.out HHN.out hwb))
                  clear hwb
                  go_wp2_with fail
                  go_roundw
                  case rel => exact ⟨k + 1, hlt, by go_num, HNN, B3⟩
                  case measure => simp [intOf]; omega
      · obtain rfl : i = l.length := by omega
        go_wp2_with fail
        go_ret
        exact ⟨ret_int (by rw [HV.out, HL.out.done]), BR.out⟩
end Go.Proofs.YtiiioefjdebggaaGreatDoor

/- identityref24.Signing. -/
namespace Go.Proofs.YtiiioefjdebggaaGreatDoor
open Go.RowKit

/-- The best key so far and its place. -/
def BestAt (l : List Ky) (o : Option Ky) (z : Int) : Prop := (z = -1 ∧ o = none) ∨ ∃ j : Nat, ∃ h : j < l.length, z = (j : Int) ∧ o = some l[j]
set_option maxHeartbeats 8000000 in
set_option maxRecDepth 100000 in
theorem rsigning_any (l : List Ky) (A : Option Addr) (c : Nat) (t : Int) (w : World) (hS : KysAt w A l) (hl : l.length ≤ 9223372036854775807) (hin : ∀ x ∈ l, KyIn x) :
    Calls Tryz.prog 46 #[.slice A l.length c, .int .i64 t] w fun e w' => e = .returned (sigV (sigO l t)) ∧ Below w.heap.size w w' := by
  have R1 : Hid (KyBox (w.alloc (kyO ky0)) w.heap.size ky0) := Lib.hid (KyBox.new w ky0)
  have B1 : Hid (Below w.heap.size w (w.alloc (kyO ky0))) := Lib.hid ((Below.refl _ _).alloc (Nat.le_refl _) _)
  have HK := Lib.hid (rkcheck_any l A c (w.alloc (kyO ky0)) (hS.below B1.out) hl hin)
  have HS := Lib.hid hS
  have HSO : Hid (sigO l t = if keysE l = 0 then sigF t l else none) := Lib.hid rfl
  obtain ⟨E, HE⟩ : ∃ E, Hid (keysE l = E) := ⟨_, Lib.hid rfl⟩
  rw [HE.out] at HSO HK
  obtain ⟨O, HO⟩ : ∃ O, Hid (sigO l t = O) := ⟨_, Lib.hid rfl⟩
  rw [HO.out] at HSO
  rw [HO.out]
  clear hS hin
  go_enter Tryz.func46, Tryz.ntmps46
  go_upto_region 1 with (first | (refine alloc_ky rfl _ rfl rfl ?_) | fail)
  go_wp2_with fail
  refine (Calls.mono HK.out ?_)
  rintro e w2 ⟨rfl, hb2⟩
  have B2 := Lib.hid (bthen B1.out hb2)
  have R2 := Lib.hid (R1.out.below hb2)
  clear hb2 HK R1 B1
  by_cases h0 : E = 0
  · have hEb : (E == 0) = true := by rw [h0]; rfl
    have HOF : Hid (O = sigF t l) := Lib.hid (by rw [HSO.out, if_pos h0])
    have HKZ := Lib.hid (keysE_zero (l := l) (by rw [HE.out, h0])).1
    subst h0
    clear HSO HE
    go_wp2_with fail
    go_loopw [6, 7] (fun z i wr => ∃ (k : Nat) (zb : Int), k ≤ l.length ∧ i = .int .i64 k ∧ z = .int .i64 zb ∧ Hid (BestAt l (sigF t (l.take k)) zb) ∧ Hid (Below w.heap.size w wr) ∧ Hid (KyBox wr w.heap.size ky0)) (fun _ i _ => l.length - (intOf i).toNat)
    case atStart => exact ⟨0, -1, Nat.zero_le _, rfl, rfl, Lib.hid (.inl ⟨rfl, rfl⟩), B2, R2⟩
    case round =>
      obtain ⟨k, zb, hk, rfl, rfl, HBA, BR, RR⟩ := hrel
      clear B2 R2
      by_cases hlt : k < l.length
      · obtain ⟨b, o, rfl, hat⟩ := (HS.out.below BR.out).at k hlt
        have HAT := Lib.hid hat
        have HNX := Lib.hid (sig_next (t := t) hlt rfl)
        have HBK : Hid (BestAt l (some l[k]) (k : Int)) := Lib.hid (.inr ⟨k, hlt, rfl, rfl⟩)
        obtain ⟨x, HX⟩ : ∃ x, Hid (l[k] = x) := ⟨_, Lib.hid rfl⟩
        rw [HX.out] at HAT HNX HBK
        obtain ⟨sg, HSG⟩ : ∃ o, Hid (sigF t (l.take k) = o) := ⟨_, Lib.hid rfl⟩
        rw [HSG.out] at HBA HNX
        have k0 : (0 : Int) ≤ (k : Int) := by omega
        have k1 : (k : Int) < (l.length : Int) := by omega
        have c2 := hat.c2
        have c3 := hat.c3
        rw [HX.out] at c2 c3
        clear hat
        go_wp2_with fail
        refine (rin_any x.sf x.su t _).mono ?_
        rintro e w4 ⟨rfl, hb4⟩
        have B4 := Lib.hid (bthen BR.out hb4)
        have R4 := Lib.hid (RR.out.below hb4)
        have HA4 := Lib.hid (HAT.out.below hb4)
        clear hb4 c2 c3 BR RR HAT
        have B4d := Lib.hid (fun n => below_drewN' B4.out n)
        have R4d : Hid (∀ n, KyBox (w4.drewN n) w.heap.size ky0) := Lib.hid (fun n => R4.out)
        cases hw : inW x.sf x.su t with
        | false =>
          have HN := Lib.hid (HNX.out.1 hw)
          clear hw HNX
          go_wp2_with fail
          go_roundw
          case rel => exact ⟨k + 1, zb, hlt, by go_num, rfl, by rw [HN.out]; exact HBA, B4, R4⟩
          case measure => simp [intOf]; omega
        | true =>
          have HN := Lib.hid (HNX.out.2 hw)
          clear hw HNX
          have c0 := HA4.out.c0
          have c2 := HA4.out.c2
          rcases HBA.out with ⟨rfl, rfl⟩ | ⟨j, hj, rfl, rfl⟩
          · have HNN := Lib.hid (HN.out.1 rfl)
            go_wp2_with fail
            go_quiet (fail)
            go_wp2_with fail
            go_roundw
            case rel => exact ⟨k + 1, k, hlt, by go_num, by go_num, by rw [HNN.out]; exact HBK, Lib.hid (B4d.out _), Lib.hid (R4d.out _)⟩
            case measure => simp [intOf]; omega
          · have HN2 := Lib.hid (HN.out.2 _ rfl)
            obtain ⟨b', o', hA, hat⟩ := (HS.out.below B4.out).at j hj
            injection hA with hA
            injection hA with hA1 hA2
            subst hA1
            subst hA2
            have HBJ : Hid (BestAt l (some l[j]) (j : Int)) := Lib.hid (.inr ⟨j, hj, rfl, rfl⟩)
            obtain ⟨y, HY⟩ : ∃ y, Hid (l[j] = y) := ⟨_, Lib.hid rfl⟩
            rw [HY.out] at hat HN2 HBJ
            have d0 := hat.c0
            have d2 := hat.c2
            have j0 : (0 : Int) ≤ (j : Int) := by omega
            have j1 : (j : Int) < (l.length : Int) := by omega
            have jd : decide ((j : Int) < 0) = false := decide_eq_false (by omega)
            clear hat HN HBA
            rcases bet_cases y x with ⟨hb, h1 | ⟨h1, h2⟩⟩ | ⟨hb, h1 | ⟨h1, h2⟩⟩
            · have u1 : decide (y.sf < x.sf) = true := decide_eq_true h1
              clear h1
              have HNN := Lib.hid (HN2.out.1 hb)
              clear hb HN2
              go_wp2_with fail
              go_quiet (fail)
              go_wp2_with fail
              go_roundw
              case rel => exact ⟨k + 1, k, hlt, by go_num, by go_num, by rw [HNN.out]; exact HBK, Lib.hid (B4d.out _), Lib.hid (R4d.out _)⟩
              case measure => simp [intOf]; omega
            · rw [h1] at d2
              have u1 : decide (x.sf < x.sf) = false := by simp
              have u2 : (x.sf == x.sf) = true := by simp
              clear h1
              obtain ⟨u3, u4, u5⟩ := ord_yes h2
              clear h2
              have HNN := Lib.hid (HN2.out.1 hb)
              clear hb HN2
              go_wp2_with fail
              go_quiet (fail)
              go_wp2_with fail
              go_roundw
              case rel => exact ⟨k + 1, k, hlt, by go_num, by go_num, by rw [HNN.out]; exact HBK, Lib.hid (B4d.out _), Lib.hid (R4d.out _)⟩
              case measure => simp [intOf]; omega
            · have u1 : decide (y.sf < x.sf) = false := decide_eq_false (by omega)
              have u2 : (x.sf == y.sf) = false := by rw [beq_eq_false_iff_ne]; omega
              clear h1
              have HNN := Lib.hid (HN2.out.2 hb)
              clear hb HN2
              go_wp2_with fail
              go_quiet (fail)
              go_wp2_with fail
              go_roundw
              case rel => exact ⟨k + 1, j, hlt, by go_num, rfl, by rw [HNN.out]; exact HBJ, Lib.hid (B4d.out _), Lib.hid (R4d.out _)⟩
              case measure => simp [intOf]; omega
            · rw [h1] at d2
              have u1 : decide (x.sf < x.sf) = false := by simp
              have u2 : (x.sf == x.sf) = true := by simp
              clear h1
              rcases ord_no h2 with u3 | ⟨u3, u4, u5⟩
              · clear h2
                have HNN := Lib.hid (HN2.out.2 hb)
                clear hb HN2
                go_wp2_with fail
                go_quiet (fail)
                go_wp2_with fail
                go_roundw
                case rel => exact ⟨k + 1, j, hlt, by go_num, rfl, by rw [HNN.out]; exact HBJ, Lib.hid (B4d.out _), Lib.hid (R4d.out _)⟩
                case measure => simp [intOf]; omega
              · clear h2
                have u6 : x.id.toList = y.id.toList := by rw [u5]
                clear u5
                have HNN := Lib.hid (HN2.out.2 hb)
                clear hb HN2
                go_wp2_with fail
                go_quiet (fail)
                go_wp2_with fail
                go_roundw
                case rel => exact ⟨k + 1, j, hlt, by go_num, rfl, by rw [HNN.out]; exact HBJ, Lib.hid (B4d.out _), Lib.hid (R4d.out _)⟩
                case measure => simp [intOf]; omega
      · have e : l.take k = l := List.take_of_length_le (by omega)
        rw [e] at HBA
        have HOX : Hid (sigF t l = O) := Lib.hid HOF.out.symm
        rw [HOX.out] at HBA
        rcases HBA.out with ⟨rfl, hO⟩ | ⟨j, hj, rfl, hO⟩
        · have HON := Lib.hid hO
          clear hO e
          go_wp2_with (first
            | (refine build_ky rfl _ rfl rfl ?_)
            | (refine store_ky rfl _ rfl _ _ rfl w.heap.size rfl ky0 rfl ky0 RR ?_)
            | fail)
          refine bodyPost_ret (v := sigV none) (res_ky Tryz.results46 _ _ w.heap.size ky0 _ rfl RR.out.set rfl) rfl ⟨by rw [HON.out], below_setRow BR.out (Nat.le_refl _) _⟩
        · have HON := Lib.hid hO
          obtain ⟨b, o, rfl, hat⟩ := (HS.out.below BR.out).at j hj
          have HAT := Lib.hid hat
          obtain ⟨y, HY⟩ : ∃ y, Hid (l[j] = y) := ⟨_, Lib.hid rfl⟩
          rw [HY.out] at HAT HON
          have j0 : (0 : Int) ≤ (j : Int) := by omega
          have j1 : (j : Int) < (l.length : Int) := by omega
          clear hat hO e
          go_wp2_with (first
            | (refine load_kyAt rfl _ rfl _ rfl b (o + j * 6) rfl y HAT ?_)
            | (refine store_ky rfl _ rfl _ _ rfl w.heap.size rfl y rfl ky0 RR ?_)
            | fail)
          refine bodyPost_ret (v := sigV (some y)) (res_ky Tryz.results46 _ _ w.heap.size y _ rfl RR.out.set rfl) rfl ⟨by rw [HON.out], below_setRow BR.out (Nat.le_refl _) _⟩
  · have hEb : (E == 0) = false := by simpa using h0
    have HOF : Hid (O = none) := Lib.hid (by rw [HSO.out, if_neg h0])
    clear h0 HSO HE
    go_wp2_with (first
      | (refine build_ky rfl _ rfl rfl ?_)
      | (refine store_ky rfl _ rfl _ _ rfl w.heap.size rfl ky0 rfl ky0 R2 ?_)
      | fail)
    refine bodyPost_ret (v := sigV none) (res_ky Tryz.results46 _ _ w.heap.size ky0 _ rfl R2.out.set rfl) rfl ⟨by rw [HOF.out], below_setRow B2.out (Nat.le_refl _) _⟩
end Go.Proofs.YtiiioefjdebggaaGreatDoor

/- The reference's keys and values. -/
namespace Go.Proofs.YtiiioefjdebggaaGreatDoor
open Go.RowKit

/-- Strings of a block. -/
theorem strs_row {w : World} {b : Nat} {l : List ByteArray} {cs : Array Value} {t : TypeId} (h : w.heap[b]? = some (.cells cs t (0, 0))) (hc : ∀ j, (hj : j < l.length) → cs[j]? = some (.string l[j])) : Strs w (some ⟨b, 0, none⟩) l := by
  intro i hi
  refine ⟨b, 0, rfl, ?_⟩
  rw [Nat.zero_add, cell_of_row w b i _ _ (0, 0) h, hc i hi]
set_option maxHeartbeats 1000000 in
theorem rkeys_any (w : World) :
    Calls Tryz.prog 87 #[] w fun e w' => e = .returned (.slice (some ⟨w.heap.size, 0, none⟩) 16 16) ∧ (Strs w' (some ⟨w.heap.size, 0, none⟩) keysS ∧ Below w.heap.size w w') := by
  have HR : Hid (Strs (w.alloc (.cells keyCells 9)) (some ⟨w.heap.size, 0, none⟩) keysS) := Lib.hid (strs_row (heap_alloc_new w _) (fun j hj => by
    show (keysS.map Value.string).toArray[j]? = _
    rw [List.getElem?_toArray, List.getElem?_map, List.getElem?_eq_getElem hj]
    rfl))
  have HB : Hid (Below w.heap.size w (w.alloc (.cells keyCells 9))) := Lib.hid ((Below.refl _ _).alloc (Nat.le_refl _) _)
  go_enter Tryz.func87, Tryz.ntmps87
  go_wp2_with fail
  go_ret
  exact ⟨rfl, HR.out, HB.out⟩
def strCells (c : Cl) : Array Value := #[.string c.kind, .string c.issuer, .string c.subject, .string c.client, .string c.tenant, .string c.id, .string c.session, .string c.nonce]
def numCells (c : Cl) : Array Value := #[.int .i64 c.issued, .int .i64 c.nb, .int .i64 c.exp, .int .i64 c.auth, .int .i64 c.level]
theorem strCells_at (c : Cl) (k : Nat) (hk : k < 8) : (strCells c)[k]? = some (.string (strAt c k)) := by
  rcases k with _|_|_|_|_|_|_|_|k <;> first | omega | rfl
theorem numCells_at (c : Cl) (k : Nat) (hk : k < 5) : (numCells c)[k]? = some (.int .i64 (numAt c k)) := by
  rcases k with _|_|_|_|_|k <;> first | omega | rfl
theorem take_vals (c : Cl) (k : Nat) (hk : k < 16) : strVs ((valsS c).take (k + 1)) = strVs ((valsS c).take k) ++ [strV ((valsS c)[k]'hk)] := by
  rw [List.take_succ_eq_append_getElem (show k < (valsS c).length from hk), ← strVs_snoc]
  rfl
set_option maxHeartbeats 8000000 in
set_option maxRecDepth 100000 in
theorem rvalues_any (c : Cl) (p : P3) (w : World) (hs : ClSmall c) (hC : ClAt w c p) :
    Calls Tryz.prog 88 #[clV c p] w fun e w' => (∃ A cap, e = .returned (.slice A 16 cap) ∧ 16 ≤ cap ∧ Strs w' A (valsS c)) ∧ Below w.heap.size w w' := by
  obtain ⟨i0, hi, hz0, hz1, hz2⟩ := info_parts Tryz.info_s
  have X1 : Hid (ClBox (w.alloc (clO c p)) w.heap.size c p) := Lib.hid (ClBox.new w c p)
  have B2 : Hid (Below w.heap.size w ((w.alloc (clO c p)).alloc (.cells (strCells c) 9))) := Lib.hid (((Below.refl _ _).alloc (Nat.le_refl _) _).alloc (by simp) _)
  have X2 : Hid (ClBox ((w.alloc (clO c p)).alloc (.cells (strCells c) 9)) w.heap.size c p) := Lib.hid (X1.out.below ((Below.refl _ _).alloc (Nat.le_refl _) _))
  have S2 : Hid (∀ k, k < 8 → ((w.alloc (clO c p)).alloc (.cells (strCells c) 9)).cell? ⟨w.heap.size + 1, k, none⟩ = some (.string (strAt c k))) := Lib.hid (fun k hk => by
    have h := heap_alloc_new (w.alloc (clO c p)) (.cells (strCells c) 9)
    rw [show (w.alloc (clO c p)).heap.size = w.heap.size + 1 by simp] at h
    rw [cell_of_row _ _ k _ _ (0, 0) h, strCells_at c k hk])
  have HS := Lib.hid hs
  have HC := Lib.hid hC
  clear hs hC
  obtain ⟨x0, x1, x2, x3, x4, x5, x6, x7, _⟩ := X1.out.cells
  go_enter Tryz.func88, Tryz.ntmps88
  go_wp2_with (first | (refine box_cl rfl _ rfl _ rfl c p rfl ?_) | fail)
  go_loopw [3, 5] (fun v i wr => ∃ k : Nat, k ≤ 8 ∧ i = .int .i64 k ∧ Hid (wr.ownsRow (w.heap.size + 2) 9 1 v k (strVs ((valsS c).take k))) ∧ Hid (ClBox wr w.heap.size c p) ∧ Hid (∀ k, k < 8 → wr.cell? ⟨w.heap.size + 1, k, none⟩ = some (.string (strAt c k))) ∧ Hid (Below w.heap.size w wr) ∧ w.heap.size + 2 ≤ wr.heap.size) (fun _ i _ => 8 - (intOf i).toNat)
  case atStart => exact ⟨0, Nat.zero_le _, rfl, Lib.hid (World.ownsRow_nil _ _ _ _), X2, S2, B2, by simp⟩
  case round =>
    obtain ⟨k, hk, rfl, O1, X3, S3, B3, hz3⟩ := hrel
    clear X1 B2 X2 S2 x0 x1 x2 x3 x4 x5 x6 x7
    by_cases hlt : k < 8
    · have hcell := S3.out k hlt
      have hxz := HS.out.str k
      have HTK : Hid (strVs ((valsS c).take (k + 1)) = strVs ((valsS c).take k) ++ [strV (escS (strAt c k))]) := Lib.hid (by rw [take_vals c k (by omega), vals_str c k hlt])
      obtain ⟨x, HX⟩ : ∃ x, Hid (strAt c k = x) := ⟨_, Lib.hid rfl⟩
      rw [HX.out] at hcell hxz HTK
      obtain ⟨y, HY⟩ : ∃ y, Hid (escS x = y) := ⟨_, Lib.hid rfl⟩
      rw [HY.out] at HTK
      have f1 : (0 : Int) ≤ (k : Int) := by omega
      have f2 : (k : Int) < 8 := by omega
      go_wp2_with fail
      refine (resc_any x _ (by omega)).mono ?_
      rintro e w3 ⟨rfl, hb3⟩
      rw [HY.out]
      have BS3 : Hid (Below (w.heap.size + 2) wr w3) := Lib.hid (hb3.mono hz3)
      have O3 := Lib.hid (own_below O1.out hb3)
      have hz4 : w.heap.size + 2 ≤ w3.heap.size := by have := hb3.size; omega
      clear hb3 hcell
      go_wp2_with (first
        | (at_builtin; refine wpList_append_own _ rfl _ _ 23 rfl (w.heap.size + 2) 9 i0 (.string ByteArray.empty) 1 16 Tryz.underlying23 hi hz0 hz1 hz2 rfl (by decide) _ _ _ rfl (O3.out.alloc _) ⟨w3.heap.size, 0, none⟩ 1 1 [strV y] rfl rfl (cell_one_new _ _ _) (by intro u hu; simp at hu; subst hu; rfl) (by unfold maxLen; omega) (by omega) (by simp; omega) ?_; intro v' w4 hown4 hg4 _)
        | fail)
      have BS4 : Hid (Below (w.heap.size + 2) wr w4) := Lib.hid ((BS3.out.alloc hz4 _).grown hg4 (by simp; omega) (fun q hq => (O3.out.lt q hq).1))
      have O4 : Hid (w4.ownsRow (w.heap.size + 2) 9 1 v' (k + 1) (strVs ((valsS c).take (k + 1)))) := Lib.hid (by show World.ownsRow _ _ _ _ _ _ _; rw [HTK.out]; exact hown4)
      have B4 := Lib.hid (B3.out.trans (BS4.out.mono (by omega)))
      have X4 : Hid (ClBox w4 w.heap.size c p) := Lib.hid ((BS4.out.block w.heap.size (by omega)).trans X3.out)
      have S4 : Hid (∀ k, k < 8 → w4.cell? ⟨w.heap.size + 1, k, none⟩ = some (.string (strAt c k))) := Lib.hid (fun k hk => (BS4.out.cell (p := ⟨w.heap.size + 1, k, none⟩) (by show w.heap.size + 1 < _; omega)).trans (S3.out k hk))
      have hz5 : w.heap.size + 2 ≤ w4.heap.size := by have := BS4.out.size; omega
      clear hown4 hg4
      go_wp2_with fail
      go_roundw
      case rel => exact ⟨k + 1, hlt, by go_num, O4, X4, S4, B4, hz5⟩
      case measure => simp [intOf]; omega
    · obtain rfl : k = 8 := by omega
      clear S3
      obtain ⟨l1, HL1⟩ : ∃ l1, Hid (c.aud = l1) := ⟨_, Lib.hid rfl⟩
      obtain ⟨l2, HL2⟩ : ∃ l2, Hid (c.sco = l2) := ⟨_, Lib.hid rfl⟩
      obtain ⟨l3, HL3⟩ : ∃ l3, Hid (c.act = l3) := ⟨_, Lib.hid rfl⟩
      obtain ⟨A1, HA1⟩ : ∃ A1, Hid (p.a1 = A1) := ⟨_, Lib.hid rfl⟩
      obtain ⟨A2, HA2⟩ : ∃ A2, Hid (p.a2 = A2) := ⟨_, Lib.hid rfl⟩
      obtain ⟨A3, HA3⟩ : ∃ A3, Hid (p.a3 = A3) := ⟨_, Lib.hid rfl⟩
      obtain ⟨n1, HN1⟩ : ∃ n1, Hid (p.c1 = n1) := ⟨_, Lib.hid rfl⟩
      obtain ⟨n2, HN2⟩ : ∃ n2, Hid (p.c2 = n2) := ⟨_, Lib.hid rfl⟩
      obtain ⟨n3, HN3⟩ : ∃ n3, Hid (p.c3 = n3) := ⟨_, Lib.hid rfl⟩
      have HK3 : Hid (∀ W, ClBox W w.heap.size c p → W.cell? ⟨w.heap.size, 8, none⟩ = some (.slice A1 l1.length n1) ∧ W.cell? ⟨w.heap.size, 9, none⟩ = some (.slice A2 l2.length n2) ∧ W.cell? ⟨w.heap.size, 10, none⟩ = some (.slice A3 l3.length n3)) := Lib.hid (fun W h => by
        obtain ⟨_, _, _, _, _, _, _, _, x8, x9, x10, _⟩ := h.cells
        rw [← HL1.out, ← HL2.out, ← HL3.out, ← HA1.out, ← HA2.out, ← HA3.out, ← HN1.out, ← HN2.out, ← HN3.out]
        exact ⟨x8, x9, x10⟩)
      have HST : Hid (∀ W, Below w.heap.size w W → Strs W A1 l1 ∧ Strs W A2 l2 ∧ Strs W A3 l3) := Lib.hid (fun W hb => by
        rw [← HL1.out, ← HL2.out, ← HL3.out, ← HA1.out, ← HA2.out, ← HA3.out]
        exact ⟨(HC.out.below hb).aud, (HC.out.below hb).sco, (HC.out.below hb).act⟩)
      have HZZ : Hid ((∀ s ∈ l1, s.size ≤ 300000) ∧ (∀ s ∈ l2, s.size ≤ 300000) ∧ (∀ s ∈ l3, s.size ≤ 300000)) := Lib.hid (by
        rw [← HL1.out, ← HL2.out, ← HL3.out]
        exact ⟨fun s hs => by have := HS.out.z1 s hs; omega, fun s hs => by have := HS.out.z2 s hs; omega, fun s hs => by have := HS.out.z3 s hs; omega⟩)
      have m1 : l1.length ≤ 16 := by rw [← HL1.out]; exact HS.out.l1
      have m2 : l2.length ≤ 16 := by rw [← HL2.out]; exact HS.out.l2
      have m3 : l3.length ≤ 16 := by rw [← HL3.out]; exact HS.out.l3
      have HTK : Hid (strVs ((valsS c).take 11) = strVs ((valsS c).take 8) ++ [strV (joinS l1), strV (joinS l2), strV (joinS l3)]) := Lib.hid (by rw [← HL1.out, ← HL2.out, ← HL3.out]; rfl)
      obtain ⟨x8, x9, x10⟩ := HK3.out _ X3.out
      go_wp2_with fail
      have X3d : Hid (ClBox wr.drew w.heap.size c p) := Lib.hid (show ClBox wr.drew w.heap.size c p from X3.out)
      go_region_held3 (fun w' => w'.cell? ⟨w.heap.size, 8, none⟩ = some (.slice A1 l1.length n1) ∧ w'.cell? ⟨w.heap.size, 9, none⟩ = some (.slice A2 l2.length n2) ∧ w'.cell? ⟨w.heap.size, 10, none⟩ = some (.slice A3 l3.length n3))
        (first
          | go_keep
          | (exact HK3.out _ X8.out)
          | (exact HK3.out _ X7.out)
          | (exact HK3.out _ X6.out)
          | (exact HK3.out _ X5.out))
        (first
          | (go_at_call_of 131 l1; refine (rjoin_any l1 A1 n1 _ (HST.out _ B3.out.drew).1 (by omega) HZZ.out.1).mono ?_; rintro e w5 ⟨rfl, hb5⟩; have B5 := Lib.hid (bthen B3.out.drew hb5); have X5 : Hid (ClBox w5 w.heap.size c p) := Lib.hid (X3d.out.below hb5); have O5 := Lib.hid (own_below O1.out.drew hb5); have hz5 : w.heap.size + 2 ≤ w5.heap.size := Nat.le_trans hz3 hb5.size; clear hb5)
          | (go_at_call_of 131 l2; refine (rjoin_any l2 A2 n2 _ (HST.out _ B5.out).2.1 (by omega) HZZ.out.2.1).mono ?_; rintro e w6 ⟨rfl, hb6⟩; have B6 := Lib.hid (bthen B5.out hb6); have X6 : Hid (ClBox w6 w.heap.size c p) := Lib.hid (X5.out.below hb6); have O6 := Lib.hid (own_below O5.out hb6); have hz6 : w.heap.size + 2 ≤ w6.heap.size := Nat.le_trans hz5 hb6.size; clear hb6)
          | (go_at_call_of 131 l3; refine (rjoin_any l3 A3 n3 _ (HST.out _ B6.out).2.2 (by omega) HZZ.out.2.2).mono ?_; rintro e w7 ⟨rfl, hb7⟩; have B7 := Lib.hid (bthen B6.out hb7); have X7 : Hid (ClBox w7 w.heap.size c p) := Lib.hid (X6.out.below hb7); have O7 := Lib.hid (own_below O6.out hb7); have hz7 : w.heap.size + 2 ≤ w7.heap.size := Nat.le_trans hz6 hb7.size; clear hb7)
          | (refine step_append_lies _ (by rfl) _ _ _ (by rfl) (w.heap.size + 2) 9 i0 _ 1 16 Tryz.underlying23 hi hz0 hz1 hz2 rfl (by omega) _ 8 (strVs ((valsS c).take 8)) (by rfl) ?_ ⟨w7.heap.size, 0, none⟩ 3 3 [strV (joinS l1), strV (joinS l2), strV (joinS l3)] (by rfl) (by rfl) ?_ ?_ (by omega) (by unfold maxLen; omega) (by omega) ?_ (w7.heap.size + 1) ?_ ?_; exact O7.out.alloc _; exact cell_three_new _ _ _ _ _; (intro u hu; simp at hu; rcases hu with rfl | rfl | rfl <;> rfl); (simp; omega); (simp); (intro gg cap2 w8 ho8 hg8 hat hlt8; have BS8 : Hid (Below (w.heap.size + 2) w7 w8) := Lib.hid (((Below.refl _ w7).alloc hz7 _).grown hg8 (by simp; omega) (fun q hq => (O7.out.lt q hq).1)); have X8 : Hid (ClBox w8 w.heap.size c p) := Lib.hid ((BS8.out.block w.heap.size (by omega)).trans X7.out); have O8 : Hid (w8.ownsRow (w.heap.size + 2) 9 1 (.slice (some ⟨gg, 0, none⟩) 11 cap2) 11 (strVs ((valsS c).take 11))) := Lib.hid (by show World.ownsRow _ _ _ _ _ _ _; rw [HTK.out]; exact ho8); clear ho8 hg8 hat)))
      have BB8 : Hid (Below w.heap.size w w8) := Lib.hid (B7.out.trans (BS8.out.mono (by omega)))
      have hz8 : w.heap.size + 2 ≤ w8.heap.size := by have := BS8.out.size; omega
      clear X3 B3 hz3 O1 hlt X3d B5 X5 O5 hz5 B6 X6 O6 hz6 B7 X7 O7 hz7 x8 x9 x10 BS8 hlt8 HTK m1 m2 m3 HZZ HST HK3
      obtain ⟨_, _, _, _, _, _, _, _, _, _, _, x11, x12, x13, x14, x15⟩ := X8.out.cells
      have S9 : Hid (∀ k, k < 5 → (w8.alloc (.cells (numCells c) 3)).cell? ⟨w8.heap.size, k, none⟩ = some (.int .i64 (numAt c k))) := Lib.hid (fun k hk => by
        rw [cell_of_row _ _ k _ _ (0, 0) (heap_alloc_new w8 (.cells (numCells c) 3)), numCells_at c k hk])
      have BS9 : Hid (Below w8.heap.size w8 (w8.alloc (.cells (numCells c) 3))) := Lib.hid ((Below.refl _ _).alloc (Nat.le_refl _) _)
      go_wp2_with fail
      go_loopw [3, 7] (fun v i wr => ∃ k : Nat, k ≤ 5 ∧ i = .int .i64 k ∧ Hid (wr.ownsRow (w.heap.size + 2) 9 1 v (11 + k) (strVs ((valsS c).take (11 + k)))) ∧ Hid (∀ k, k < 5 → wr.cell? ⟨w8.heap.size, k, none⟩ = some (.int .i64 (numAt c k))) ∧ Hid (Below w.heap.size w wr) ∧ w8.heap.size + 1 ≤ wr.heap.size ∧ v.ownBlock ≠ some w8.heap.size) (fun _ i _ => 5 - (intOf i).toNat)
      case atStart => exact ⟨0, Nat.zero_le _, rfl, Lib.hid (own_below O8.out BS9.out), S9, Lib.hid (bthen BB8.out BS9.out), by simp, by intro h; have := O8.out.lt _ h; omega⟩
      case round =>
        obtain ⟨k, hk, rfl, OA, SA, BA, hza, hne⟩ := hrel
        clear S9 BS9 O8 x11 x12 x13 x14 x15
        by_cases hlt : k < 5
        · have hcell := SA.out k hlt
          have hxz := HS.out.num k hlt
          obtain ⟨hx1, hx2⟩ := hxz
          have HTK : Hid (strVs ((valsS c).take (11 + (k + 1))) = strVs ((valsS c).take (11 + k)) ++ [strV (itoaS (numAt c k))]) := Lib.hid (by rw [show 11 + (k + 1) = 11 + k + 1 by omega, take_vals c (11 + k) (by omega), vals_num c k hlt])
          obtain ⟨x, HX⟩ : ∃ x, Hid (numAt c k = x) := ⟨_, Lib.hid rfl⟩
          rw [HX.out] at hcell hx1 hx2 HTK
          obtain ⟨y, HY⟩ : ∃ y, Hid (itoaS x = y) := ⟨_, Lib.hid rfl⟩
          rw [HY.out] at HTK
          have f1 : (0 : Int) ≤ (k : Int) := by omega
          have f2 : (k : Int) < 5 := by omega
          go_wp2_with fail
          refine (rint_any x _ (by omega) (by omega)).mono ?_
          rintro e wc ⟨rfl, hbc⟩
          rw [HY.out]
          have BSC : Hid (Below wr.heap.size wr wc) := Lib.hid hbc
          have OC := Lib.hid (own_below OA.out hbc)
          have hzc : w8.heap.size + 1 ≤ wc.heap.size := by have := hbc.size; omega
          clear hbc hcell
          go_wp2_with (first
            | (at_builtin; refine wpList_append_own_at _ rfl _ _ 23 rfl (w.heap.size + 2) 9 i0 (.string ByteArray.empty) 1 16 Tryz.underlying23 hi hz0 hz1 hz2 rfl (by decide) _ _ _ rfl (OC.out.alloc _) ⟨wc.heap.size, 0, none⟩ 1 1 [strV y] rfl rfl (cell_one_new _ _ _) (by intro u hu; simp at hu; subst hu; rfl) (by unfold maxLen; omega) (by omega) (by simp; omega) ?_; intro v' wd hownd hgd _ hatd)
            | fail)
          have BSD : Hid (Below (w.heap.size + 2) wc wd) := Lib.hid (((Below.refl _ wc).alloc (by omega) _).grown hgd (by simp; omega) (fun q hq => (OC.out.lt q hq).1))
          have OD : Hid (wd.ownsRow (w.heap.size + 2) 9 1 v' (11 + (k + 1)) (strVs ((valsS c).take (11 + (k + 1))))) := Lib.hid (by show World.ownsRow _ _ _ _ _ _ _; rw [HTK.out]; exact hownd)
          have SD : Hid (∀ k, k < 5 → wd.cell? ⟨w8.heap.size, k, none⟩ = some (.int .i64 (numAt c k))) := Lib.hid (fun k hk => (hgd.cell_far ⟨w8.heap.size, k, none⟩ (by simp; omega) (fun h => hne h.symm)).trans ((((Below.refl wc.heap.size wc).alloc (Nat.le_refl _) _).cell (p := ⟨w8.heap.size, k, none⟩) (by show w8.heap.size < _; omega)).trans ((BSC.out.cell (p := ⟨w8.heap.size, k, none⟩) (by show w8.heap.size < _; omega)).trans (SA.out k hk))))
          have BD : Hid (Below w.heap.size w wd) := Lib.hid ((bthen BA.out BSC.out).trans (BSD.out.mono (by omega)))
          have hzd : w8.heap.size + 1 ≤ wd.heap.size := by have := BSD.out.size; omega
          have hned : v'.ownBlock ≠ some w8.heap.size := by
            intro h
            rcases hatd with h2 | h2
            · exact hne (h2.symm.trans h)
            · rw [h] at h2
              have h3 := Option.some.inj h2
              simp at h3
              omega
          clear hownd hgd hatd
          go_wp2_with fail
          go_roundw
          case rel => exact ⟨_, _, _, _, _, _, _, _, _, _, _, _, _, _, _, _, ⟨k + 1, hlt, by go_num, OD, SD, BD, hzd, hned⟩, rfl⟩
          case measure => simp [intOf]; omega
        · obtain rfl : k = 5 := by omega
          have HA : Hid ((valsS c).take (11 + 5) = valsS c) := Lib.hid (List.take_of_length_le (by rw [valsS_len]; omega))
          have OA2 : Hid (wr.ownsRow (w.heap.size + 2) 9 1 u3 16 (strVs (valsS c))) := Lib.hid (by have h := OA.out; rwa [HA.out] at h)
          obtain ⟨A, cc, hv, hS2, hcc⟩ := own_strs (l := valsS c) OA2.out rfl (fun j hj => strVs_at _ j hj)
          have HR := Lib.hid (And.intro hcc hS2)
          subst hv
          clear hS2 hcc
          go_wp2_with fail
          go_ret
          exact ⟨⟨A, cc, rfl, HR.out.1, HR.out.2⟩, BA.out⟩
end Go.Proofs.YtiiioefjdebggaaGreatDoor

/- The reference's names. -/
namespace Go.Proofs.YtiiioefjdebggaaGreatDoor
open Go.RowKit

set_option maxHeartbeats 8000000 in
set_option maxRecDepth 100000 in
theorem rnames_any (c : Cl) (p : P3) (w : World) (hin : ClIn c p) :
    Calls Tryz.prog 89 #[clV c p] w fun e w' => e = .returned (.bool (nameB c)) ∧ Below w.heap.size w w' := by
  obtain ⟨kind, issuer, subject, client, tenant, id, session, nonce, aud, sco, act, issued, nb, exp, auth, level⟩ := c
  obtain ⟨a1, c1, a2, c2, a3, c3⟩ := p
  obtain ⟨s0, s1, s2, s3, s4, s5, s6, s7, _, _, _, _, _, _, _, _, _, _, _, _, _, _⟩ := hin
  simp only at s0 s1 s2 s3 s4 s5 s6 s7
  have HNV : Hid (nameB ⟨kind, issuer, subject, client, tenant, id, session, nonce, aud, sco, act, issued, nb, exp, auth, level⟩ = (wordS kind && wordS client && wordS tenant && wordS id && optB session && optB nonce && cleanS issuer && cleanS subject)) := Lib.hid rfl
  have B1 : Hid (Below w.heap.size w (w.alloc (.cells #[.string kind, .string issuer, .string subject, .string client, .string tenant, .string id, .string session, .string nonce, .slice a1 aud.length c1, .slice a2 sco.length c2, .slice a3 act.length c3, .int .i64 issued, .int .i64 nb, .int .i64 exp, .int .i64 auth, .int .i64 level] 25))) := Lib.hid ((Below.refl _ _).alloc (Nat.le_refl _) _)
  obtain ⟨V, HV⟩ : ∃ V, Hid (nameB ⟨kind, issuer, subject, client, tenant, id, session, nonce, aud, sco, act, issued, nb, exp, auth, level⟩ = V) := ⟨_, Lib.hid rfl⟩
  rw [HV.out] at HNV
  rw [HV.out]
  show Calls Tryz.prog 89 #[.agg #[.string kind, .string issuer, .string subject, .string client, .string tenant, .string id, .string session, .string nonce, .slice a1 aud.length c1, .slice a2 sco.length c2, .slice a3 act.length c3, .int .i64 issued, .int .i64 nb, .int .i64 exp, .int .i64 auth, .int .i64 level]] w _
  by_cases k0 : wordS kind = false
  · have hG : Hid (V = false) := Lib.hid (by rw [HNV.out]; simp [k0])
    go_enter Tryz.func89, Tryz.ntmps89
    go_wp2_with (first | (go_at_call 68; refine (rword_any _ _ (by assumption)).mono ?_; rintro e wsame ⟨rfl, rfl⟩) | (go_at_call 85; refine (rclean_any _ _ (by assumption)).mono ?_; rintro e wsame ⟨rfl, rfl⟩) | fail)
    go_ret
    exact ⟨ret_b hG.out.symm, B1.out⟩
  · have k0 : wordS kind = true := by simpa using k0
    by_cases k1 : wordS client = false
    · have hG : Hid (V = false) := Lib.hid (by rw [HNV.out]; simp [k0, k1])
      go_enter Tryz.func89, Tryz.ntmps89
      go_wp2_with (first | (go_at_call 68; refine (rword_any _ _ (by assumption)).mono ?_; rintro e wsame ⟨rfl, rfl⟩) | (go_at_call 85; refine (rclean_any _ _ (by assumption)).mono ?_; rintro e wsame ⟨rfl, rfl⟩) | fail)
      go_ret
      exact ⟨ret_b hG.out.symm, B1.out⟩
    · have k1 : wordS client = true := by simpa using k1
      by_cases k2 : wordS tenant = false
      · have hG : Hid (V = false) := Lib.hid (by rw [HNV.out]; simp [k0, k1, k2])
        go_enter Tryz.func89, Tryz.ntmps89
        go_wp2_with (first | (go_at_call 68; refine (rword_any _ _ (by assumption)).mono ?_; rintro e wsame ⟨rfl, rfl⟩) | (go_at_call 85; refine (rclean_any _ _ (by assumption)).mono ?_; rintro e wsame ⟨rfl, rfl⟩) | fail)
        go_ret
        exact ⟨ret_b hG.out.symm, B1.out⟩
      · have k2 : wordS tenant = true := by simpa using k2
        by_cases k3 : wordS id = false
        · have hG : Hid (V = false) := Lib.hid (by rw [HNV.out]; simp [k0, k1, k2, k3])
          go_enter Tryz.func89, Tryz.ntmps89
          go_wp2_with (first | (go_at_call 68; refine (rword_any _ _ (by assumption)).mono ?_; rintro e wsame ⟨rfl, rfl⟩) | (go_at_call 85; refine (rclean_any _ _ (by assumption)).mono ?_; rintro e wsame ⟨rfl, rfl⟩) | fail)
          go_ret
          exact ⟨ret_b hG.out.symm, B1.out⟩
        · have k3 : wordS id = true := by simpa using k3
          rcases opt_cases session with ⟨q1, q2⟩ | hse
          · have hG : Hid (V = false) := Lib.hid (by rw [HNV.out]; simp [k0, k1, k2, k3, opt_bad q1 q2])
            go_enter Tryz.func89, Tryz.ntmps89
            go_wp2_with (first | (go_at_call 68; refine (rword_any _ _ (by assumption)).mono ?_; rintro e wsame ⟨rfl, rfl⟩) | (go_at_call 85; refine (rclean_any _ _ (by assumption)).mono ?_; rintro e wsame ⟨rfl, rfl⟩) | fail)
            go_ret
            exact ⟨ret_b hG.out.symm, B1.out⟩
          · have HSO : Hid (optB session = true) := Lib.hid (opt_good hse)
            rcases opt_cases nonce with ⟨q3, q4⟩ | hne
            · have hG : Hid (V = false) := Lib.hid (by rw [HNV.out]; simp [k0, k1, k2, k3, HSO.out, opt_bad q3 q4])
              rcases hse with q1 | ⟨q1, q2⟩
              all_goals
                go_enter Tryz.func89, Tryz.ntmps89
                go_wp2_with (first | (go_at_call 68; refine (rword_any _ _ (by assumption)).mono ?_; rintro e wsame ⟨rfl, rfl⟩) | (go_at_call 85; refine (rclean_any _ _ (by assumption)).mono ?_; rintro e wsame ⟨rfl, rfl⟩) | fail)
                go_ret
                exact ⟨ret_b hG.out.symm, B1.out⟩
            · have HNO : Hid (optB nonce = true) := Lib.hid (opt_good hne)
              by_cases k4 : cleanS issuer = false
              · have hG : Hid (V = false) := Lib.hid (by rw [HNV.out]; simp [k0, k1, k2, k3, HSO.out, HNO.out, k4])
                rcases hse with q1 | ⟨q1, q2⟩ <;> rcases hne with q3 | ⟨q3, q4⟩
                all_goals
                  go_enter Tryz.func89, Tryz.ntmps89
                  go_wp2_with (first | (go_at_call 68; refine (rword_any _ _ (by assumption)).mono ?_; rintro e wsame ⟨rfl, rfl⟩) | (go_at_call 85; refine (rclean_any _ _ (by assumption)).mono ?_; rintro e wsame ⟨rfl, rfl⟩) | fail)
                  go_ret
                  exact ⟨ret_b hG.out.symm, B1.out⟩
              · have k4 : cleanS issuer = true := by simpa using k4
                have hG : Hid (V = cleanS subject) := Lib.hid (by rw [HNV.out]; simp [k0, k1, k2, k3, HSO.out, HNO.out, k4])
                rcases hse with q1 | ⟨q1, q2⟩ <;> rcases hne with q3 | ⟨q3, q4⟩
                all_goals
                  go_enter Tryz.func89, Tryz.ntmps89
                  go_wp2_with (first | (go_at_call 68; refine (rword_any _ _ (by assumption)).mono ?_; rintro e wsame ⟨rfl, rfl⟩) | (go_at_call 85; refine (rclean_any _ _ (by assumption)).mono ?_; rintro e wsame ⟨rfl, rfl⟩) | fail)
                  go_ret
                  exact ⟨ret_b hG.out.symm, B1.out⟩
end Go.Proofs.YtiiioefjdebggaaGreatDoor

