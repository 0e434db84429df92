/- codec.ReadPairs computes readPairsS, readPairsErr. -/
import Derived.Test.YtnkblimmlkidcaaDoorCodReadW
namespace Go.Proofs.YtnkblimmlkidcaaDoor
open Go.RowKit

theorem cell_two_new (w : World) (x y : Value) (t : TypeId) : ∀ j u, [x, y][j]? = some u → (w.alloc (.cells #[x, y] t)).cell? ((⟨w.heap.size, 0, none⟩ : Addr).add j) = some u := by
  intro j u hj
  match j, hj with
  | 0, hj => simp at hj; subst hj; simp [Addr.add]
  | 1, hj => simp at hj; subst hj; simp [Addr.add]
theorem rp_some {s : ByteArray} {l : List (ByteArray × ByteArray)} (h : readPairsO s = some l) : readPairsS s = l ∧ readPairsErr s = 0 := by simp [readPairsS, readPairsErr, h]
theorem rp_none {s : ByteArray} (h : readPairsO s = none) : readPairsS s = [] ∧ readPairsErr s = 4 := by simp [readPairsS, readPairsErr, h]
theorem ps_none {l : List ByteArray} {U : List (ByteArray × ByteArray)} {k : Nat} {R : Option (List (ByteArray × ByteArray))} (hk : k < l.length) (h : unPairO l[k] = none) (HP : (unPairsO (l.drop k)).map (U ++ ·) = R) : R = none := by
  rw [List.drop_eq_getElem_cons hk, unPairsO, h] at HP
  rw [← HP]; rfl
theorem ps_step {l : List ByteArray} {U : List (ByteArray × ByteArray)} {k : Nat} {t : ByteArray × ByteArray} {R : Option (List (ByteArray × ByteArray))} (hk : k < l.length) (h : unPairO l[k] = some t) (HP : (unPairsO (l.drop k)).map (U ++ ·) = R) : (unPairsO (l.drop (k + 1))).map ((U ++ [t]) ++ ·) = R := by
  rw [List.drop_eq_getElem_cons hk, unPairsO, h, Option.bind_some] at HP
  rw [← HP]
  cases unPairsO (l.drop (k + 1)) <;> simp
theorem ps_end {l : List ByteArray} {U : List (ByteArray × ByteArray)} {k : Nat} {R : Option (List (ByteArray × ByteArray))} (hk : ¬ k < l.length) (HP : (unPairsO (l.drop k)).map (U ++ ·) = R) : R = some U := by
  rw [List.drop_of_length_le (by omega), unPairsO] at HP
  rw [← HP]; simp
theorem nonempty_of2 {s : ByteArray} (h : s ≠ ⟨#[]⟩) : s.toList.isEmpty = false := by
  rw [Lib.toList_data]
  cases hl : s.data.toList with
  | nil => exact absurd (ByteArray.ext (Array.toList_inj.1 hl)) h
  | cons a l => rfl

set_option maxHeartbeats 4000000 in
set_option maxRecDepth 100000 in
theorem creadPairs_any (s : ByteArray) (w : World) (hs : s.size ≤ 1000000) :
    Calls Tryd.prog 23 #[.string s] w fun e w' => RetPairs2 w.heap.size w' e (readPairsS s) (readPairsErr s) ∧ Below w.heap.size w w' := by
  obtain ⟨i0, hi, hz0, hz1, hz2⟩ := info_parts Tryd.info_pair
  go_enter Tryd.func23, Tryd.ntmps23
  by_cases h1 : s = ⟨#[]⟩
  · subst h1
    have hG := Lib.hid (rp_some readPairsO_nil)
    go_wp2_with fail
    go_ret2
    exact ⟨⟨none, 0, by rw [hG.out.1, hG.out.2]; rfl, by rw [hG.out.1]; exact PairsAt.nil_ _ _, (fun p h => by cases h), by rw [hG.out.1]; exact Nat.le_refl _⟩, Below.refl _ _⟩
  · have hd1 := nonempty_of2 h1
    have HO := Lib.hid (readPairsO_else h1)
    clear h1
    have hle := cutsS_le s 124
    have HZ := Lib.hid (cuts_size (s := s) (c := 124))
    go_wp2_with fail
    refine (ssplit_any s 124 w (by omega)).mono ?_
    rintro e w1 ⟨xs, cap, rfl, hc1, hown1, hD1, hb1⟩
    have HS1 : Hid (Strs w1 (some ⟨w.heap.size, 0, none⟩) (cutsS s 124)) := Lib.hid (Strs.own hown1 rfl (fun j hj => hD1 j hj hj))
    clear hown1 hD1
    obtain ⟨N, hN⟩ : ∃ N, (cutsS s 124).length = N := ⟨_, rfl⟩
    rw [hN] at hc1 hle
    have HN := Lib.hid hN
    rw [hN]
    clear hN
    go_wp2_with fail
    go_loopw [4, 6, 7, 8, 9, 10, 11, 12, 13, 19] (fun v _ _ _ _ _ _ _ _ j wr => ∃ (k : Nat) (U : List (ByteArray × ByteArray)), k ≤ N ∧ j = .int .i64 k ∧ U.length = k ∧ wr.ownsRow w1.heap.size 37 2 v k (prVs U) ∧ Hid ((unPairsO ((cutsS s 124).drop k)).map (U ++ ·) = readPairsO s) ∧ Below w1.heap.size w1 wr) (fun _ _ _ _ _ _ _ _ _ i _ => N - (intOf i).toNat)
    case atStart => exact ⟨0, [], Nat.zero_le _, rfl, rfl, World.ownsRow_nil _ _ _ _, Lib.hid (by rw [HO.out]; simp), Below.refl _ _⟩
    case round =>
      obtain ⟨k, U, hk, rfl, hU, hown, HP, hbr⟩ := hrel
      by_cases hlt : k < N
      · have hlt2 : k < (cutsS s 124).length := by rw [HN.out]; exact hlt
        obtain ⟨b', o', e', hcell⟩ := (HS1.out.below hbr) k hlt2
        injection e' with e'; injection e' with e1 e2; subst e1; subst e2
        rw [Nat.zero_add] at hcell
        have hsz := HZ.out _ (List.getElem_mem hlt2)
        have HA : Hid (unPairO (cutsS s 124)[k] = none → readPairsO s = none) := Lib.hid (fun h => ps_none hlt2 h HP.out)
        have HB : Hid (∀ t, unPairO (cutsS s 124)[k] = some t → (unPairsO ((cutsS s 124).drop (k + 1))).map ((U ++ [t]) ++ ·) = readPairsO s) := Lib.hid (fun t h => ps_step hlt2 h HP.out)
        have HU := Lib.hid hU
        generalize (cutsS s 124)[k] = x at hcell hsz HA HB
        have hct := cut_any x 61 wr (by omega)
        have hu1 := fun wq => unesc_any (cutB x 61) wq (by have := cutB_size x 61; omega)
        have hu2 := fun wq => unesc_any (cutA x 61) wq (by have := cutA_size x 61; omega)
        clear hU hlt2
        by_cases hok : 0 ≤ cutI x 61
        · have hok2 : cutOk x 61 = true := decide_eq_true hok
          have HPO : Hid (unPairO x = (unescO (cutB x 61)).bind fun k => (unescO (cutA x 61)).map fun v => (k, v)) := Lib.hid (by rw [unPairO, if_pos hok])
          rw [hok2] at hct
          clear hok hok2
          generalize cutB x 61 = kb at hct hu1 HPO
          generalize cutA x 61 = ka at hct hu2 HPO
          rcases unesc_case kb with ⟨p1, p2, p3⟩ | ⟨a, p1, p2, p3⟩
          · have hno : unPairO x = none := by rw [HPO.out, p1]; rfl
            have HNO := Lib.hid hno
            obtain ⟨f, hf⟩ : ∃ f, unescE ka = f := ⟨_, rfl⟩
            simp only [p2, p3] at hu1
            simp only [hf] at hu2
            clear p1 p2 p3 hno hf
            have hG := Lib.hid (rp_none (HA.out HNO.out))
            go_wp2_with fail
            refine hct.mono ?_
            rintro e w2 ⟨rfl, hb2⟩
            have hbr2 := bthen hbr hb2
            go_wp2_with fail
            refine (Calls.mono (hu1 w2) ?_)
            rintro e w3 ⟨rfl, hb3⟩
            have hbr3 := bthen hbr2 hb3
            go_wp2_with fail
            refine (Calls.mono (hu2 w3) ?_)
            rintro e w4 ⟨rfl, hb4⟩
            have hbr4 := bthen hbr3 hb4
            go_wp2_with fail
            go_ret2
            exact ⟨⟨none, 0, by rw [hG.out.1, hG.out.2]; rfl, by rw [hG.out.1]; exact PairsAt.nil_ _ _, (fun p h => by cases h), by rw [hG.out.1]; exact Nat.le_refl _⟩, bthen hb1 hbr4⟩
          · rcases unesc_case ka with ⟨r1, r2, r3⟩ | ⟨b, r1, r2, r3⟩
            · have hno : unPairO x = none := by rw [HPO.out, p1, r1]; rfl
              have HNO := Lib.hid hno
              simp only [p2, p3] at hu1
              simp only [r2, r3] at hu2
              clear p1 p2 p3 r1 r2 r3 hno
              have hG := Lib.hid (rp_none (HA.out HNO.out))
              go_wp2_with fail
              refine hct.mono ?_
              rintro e w2 ⟨rfl, hb2⟩
              have hbr2 := bthen hbr hb2
              go_wp2_with fail
              refine (Calls.mono (hu1 w2) ?_)
              rintro e w3 ⟨rfl, hb3⟩
              have hbr3 := bthen hbr2 hb3
              go_wp2_with fail
              refine (Calls.mono (hu2 w3) ?_)
              rintro e w4 ⟨rfl, hb4⟩
              have hbr4 := bthen hbr3 hb4
              go_wp2_with fail
              go_ret2
              exact ⟨⟨none, 0, by rw [hG.out.1, hG.out.2]; rfl, by rw [hG.out.1]; exact PairsAt.nil_ _ _, (fun p h => by cases h), by rw [hG.out.1]; exact Nat.le_refl _⟩, bthen hb1 hbr4⟩
            · have hyes : unPairO x = some (a, b) := by rw [HPO.out, p1, r1]; rfl
              have HP1 := Lib.hid (HB.out _ hyes)
              simp only [p2, p3] at hu1
              simp only [r2, r3] at hu2
              clear p1 p2 p3 r1 r2 r3 hyes
              go_wp2_with fail
              refine hct.mono ?_
              rintro e w2 ⟨rfl, hb2⟩
              have hbr2 := bthen hbr hb2
              go_wp2_with fail
              refine (Calls.mono (hu1 w2) ?_)
              rintro e w3 ⟨rfl, hb3⟩
              have hbr3 := bthen hbr2 hb3
              go_wp2_with fail
              refine (Calls.mono (hu2 w3) ?_)
              rintro e w4 ⟨rfl, hb4⟩
              have hbr4 := bthen hbr3 hb4
              have hown4 := own_below (own_below (own_below hown hb2) hb3) hb4
              go_wp2_with (at_builtin; refine wpList_append_own _ rfl _ _ 35 rfl w1.heap.size 37 i0 (.agg #[.string ByteArray.empty, .string ByteArray.empty]) 2 32 Tryd.underlying35 hi hz0 hz1 hz2 rfl (by decide) _ _ _ rfl (hown4.alloc _) ⟨w4.heap.size, 0, none⟩ 1 1 [.string a, .string b] rfl rfl (cell_two_new _ _ _ _) (by intro u hu; simp at hu; rcases hu with rfl | rfl <;> rfl) (by unfold maxLen; omega) (by omega) (by have := hbr4.size; simp; omega) ?_; intro v' w5 hown5 hg5 _)
              have HBw : Hid (Below w1.heap.size w1 w5) := Lib.hid ((hbr4.alloc hbr4.size _).grown hg5 (by have := hbr4.size; simp; omega) (fun q hq => (hown4.lt q hq).1))
              have HOw : Hid (w5.ownsRow w1.heap.size 37 2 v' (k + 1) (prVs (U ++ [(a, b)]))) := by
                show World.ownsRow _ _ _ _ _ _ _
                rw [← prVs_snoc]; exact hown5
              clear hown5 hg5
              go_wp2_with fail
              go_roundw
              case rel => exact ⟨k + 1, U ++ [(a, b)], hlt, by go_num, by rw [List.length_append, HU.out]; rfl, HOw.out, HP1, HBw.out⟩
              case measure => simp [intOf]; omega
        · have hok2 : cutOk x 61 = false := decide_eq_false hok
          have HNO : Hid (unPairO x = none) := Lib.hid (by rw [unPairO, if_neg hok])
          rw [hok2] at hct
          clear hok hok2
          generalize cutB x 61 = kb at hct hu1
          generalize cutA x 61 = ka at hct hu2
          obtain ⟨f, hf⟩ : ∃ f, unescE ka = f := ⟨_, rfl⟩
          obtain ⟨g, hg⟩ : ∃ g, unescE kb = g := ⟨_, rfl⟩
          simp only [hg] at hu1
          simp only [hf] at hu2
          clear hf hg
          have hG := Lib.hid (rp_none (HA.out HNO.out))
          go_wp2_with fail
          refine hct.mono ?_
          rintro e w2 ⟨rfl, hb2⟩
          have hbr2 := bthen hbr hb2
          go_wp2_with fail
          refine (Calls.mono (hu1 w2) ?_)
          rintro e w3 ⟨rfl, hb3⟩
          have hbr3 := bthen hbr2 hb3
          go_wp2_with fail
          refine (Calls.mono (hu2 w3) ?_)
          rintro e w4 ⟨rfl, hb4⟩
          have hbr4 := bthen hbr3 hb4
          go_wp2_with fail
          go_ret2
          exact ⟨⟨none, 0, by rw [hG.out.1, hG.out.2]; rfl, by rw [hG.out.1]; exact PairsAt.nil_ _ _, (fun p h => by cases h), by rw [hG.out.1]; exact Nat.le_refl _⟩, bthen hb1 hbr4⟩
      · have hG := Lib.hid (rp_some (ps_end (by rw [HN.out]; exact hlt) HP.out))
        go_wp2_with fail
        go_ret2
        refine ⟨?_, bthen hb1 hbr⟩
        rw [hG.out.1, hG.out.2]
        obtain ⟨A', c', e', q1, q2, q3⟩ := RetPairs2.own (c := 0) hown hU
        exact ⟨A', c', e', q1, (fun p hp => Nat.le_trans hb1.size (q2 p hp)), q3⟩
end Go.Proofs.YtnkblimmlkidcaaDoor
