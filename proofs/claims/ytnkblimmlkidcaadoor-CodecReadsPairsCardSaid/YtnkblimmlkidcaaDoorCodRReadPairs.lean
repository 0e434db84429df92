/- identityref02.ReadPairs computes readPairsS, readPairsErr. -/
import Derived.Test.YtnkblimmlkidcaaDoorCodReadPairs
namespace Go.Proofs.YtnkblimmlkidcaaDoor
open Go.RowKit

set_option maxHeartbeats 4000000 in
set_option maxRecDepth 100000 in
theorem rreadPairs_any (s : ByteArray) (w : World) (hs : s.size ≤ 1000000) :
    Calls Tryd.prog 27 #[.string s] w fun e w' => RetPairs2 w.heap.size w' e (readPairsS s) (readPairsErr s) ∧ Below w.heap.size w w' := by
  obtain ⟨i0, hi, hz0, hz1, hz2⟩ := info_parts Tryd.info_pair
  go_enter Tryd.func27, Tryd.ntmps27
  by_cases h1 : s = ⟨#[]⟩
  · subst h1
    have hG := Lib.hid (rp_some readPairsO_nil)
    go_wp2_with fail
    go_ret2
    exact ⟨⟨none, 0, by rw [hG.out.1, hG.out.2]; rfl, by rw [hG.out.1]; exact PairsAt.nil_ _ _, (fun p h => by cases h), by rw [hG.out.1]; exact Nat.le_refl _⟩, Below.refl _ _⟩
  · have hd1 := nonempty_of2 h1
    have HO := Lib.hid (readPairsO_else h1)
    clear h1
    have hle := cutsS_le s 124
    have HZ := Lib.hid (cuts_size (s := s) (c := 124))
    go_wp2_with fail
    refine (rcut_any s 124 w (by omega)).mono ?_
    rintro e w1 ⟨⟨A, cap, rfl, hS1, hA1⟩, hb1⟩
    have HS1 := Lib.hid hS1
    clear hS1
    obtain ⟨N, hN⟩ : ∃ N, (cutsS s 124).length = N := ⟨_, rfl⟩
    rw [hN] at hle
    have HN := Lib.hid hN
    rw [hN]
    clear hN
    go_wp2_with fail
    go_loopw [5, 6, 7, 8, 9, 10, 11] (fun v j _ _ _ _ _ wr => ∃ (k : Nat) (U : List (ByteArray × ByteArray)), k ≤ N ∧ j = .int .i64 k ∧ U.length = k ∧ wr.ownsRow w1.heap.size 37 2 v k (prVs U) ∧ Hid ((unPairsO ((cutsS s 124).drop k)).map (U ++ ·) = readPairsO s) ∧ Below w1.heap.size w1 wr) (fun _ i _ _ _ _ _ _ => N - (intOf i).toNat)
    case atStart => exact ⟨0, [], Nat.zero_le _, rfl, rfl, World.ownsRow_nil _ _ _ _, Lib.hid (by rw [HO.out]; simp), Below.refl _ _⟩
    case round =>
      obtain ⟨k, U, hk, rfl, hU, hown, HP, hbr⟩ := hrel
      by_cases hlt : k < N
      · have hlt2 : k < (cutsS s 124).length := by rw [HN.out]; exact hlt
        obtain ⟨b, o, rfl, hcell⟩ := (HS1.out.below hbr) k hlt2
        have hsz := HZ.out _ (List.getElem_mem hlt2)
        have HA : Hid (unPairO (cutsS s 124)[k] = none → readPairsO s = none) := Lib.hid (fun h => ps_none hlt2 h HP.out)
        have HB : Hid (∀ t, unPairO (cutsS s 124)[k] = some t → (unPairsO ((cutsS s 124).drop (k + 1))).map ((U ++ [t]) ++ ·) = readPairsO s) := Lib.hid (fun t h => ps_step hlt2 h HP.out)
        have HU := Lib.hid hU
        generalize (cutsS s 124)[k] = x at hcell hsz HA HB
        have hfi := fun wq => rfirst_any x 61 wq (by omega)
        clear hU hlt2
        by_cases hok : 0 ≤ cutI x 61
        · have HPO : Hid (unPairO x = (unescO (cutB x 61)).bind fun k => (unescO (cutA x 61)).map fun v => (k, v)) := Lib.hid (by rw [unPairO, if_pos hok])
          have hil := cutI_lt x 61
          obtain ⟨i, hie⟩ := Int.eq_ofNat_of_zero_le hok
          have eB : cutB x 61 = x.extract 0 i := by rw [cutB, if_pos hok, hie, Int.toNat_natCast]
          have eA : cutA x 61 = x.extract (i + 1) x.size := by rw [cutA, if_pos hok, hie, Int.toNat_natCast]
          have hsB := cutB_size x 61
          have hsA := cutA_size x 61
          rw [eB] at hsB HPO
          rw [eA] at hsA HPO
          rw [hie] at hil
          simp only [hie] at hfi
          have hil2 : i < x.size := by omega
          have hu1 := fun wq => runesc_any (x.extract 0 i) wq (by omega)
          have hu2 := fun wq => runesc_any (x.extract (i + 1) x.size) wq (by omega)
          clear eB eA hie hok hil
          have hw1 : IntKind.i64.wrap ((i : Int) + 1) = (i : Int) + 1 := IntWalk.i64_in _ (by omega)
          clear hsB hsA
          rcases unesc_case (x.extract 0 i) with ⟨p1, p2, p3⟩ | ⟨a, p1, p2, p3⟩
          · have hno : unPairO x = none := by rw [HPO.out, p1]; rfl
            have HNO := Lib.hid hno
            obtain ⟨f, hf⟩ : ∃ f, unescE (x.extract (i + 1) x.size) = f := ⟨_, rfl⟩
            simp only [p2, p3] at hu1
            simp only [hf] at hu2
            clear p1 p2 p3 hno hf
            have hG := Lib.hid (rp_none (HA.out HNO.out))
            go_wp2_with fail
            refine (Calls.mono (hfi wr) ?_)
            rintro e w2 ⟨rfl, rfl⟩
            go_wp2_with fail
            refine (Calls.mono (hu1 _) ?_)
            rintro e w3 ⟨rfl, hb3⟩
            have hbr3 := bthen hbr hb3
            have hcell3 := (hb3.cell (World.block_lt_of_cell? _ _ hcell)).trans hcell
            go_wp2_with fail
            refine (Calls.mono (hu2 _) ?_)
            rintro e w4 ⟨rfl, hb4⟩
            have hbr4 := bthen hbr3 hb4
            go_wp2_with fail
            go_ret2
            exact ⟨⟨none, 0, by rw [hG.out.1, hG.out.2]; rfl, by rw [hG.out.1]; exact PairsAt.nil_ _ _, (fun p h => by cases h), by rw [hG.out.1]; exact Nat.le_refl _⟩, bthen hb1 hbr4⟩
          · rcases unesc_case (x.extract (i + 1) x.size) with ⟨r1, r2, r3⟩ | ⟨b, r1, r2, r3⟩
            · have hno : unPairO x = none := by rw [HPO.out, p1, r1]; rfl
              have HNO := Lib.hid hno
              simp only [p2, p3] at hu1
              simp only [r2, r3] at hu2
              clear p1 p2 p3 r1 r2 r3 hno
              have hG := Lib.hid (rp_none (HA.out HNO.out))
              go_wp2_with fail
              refine (Calls.mono (hfi wr) ?_)
              rintro e w2 ⟨rfl, rfl⟩
              go_wp2_with fail
              refine (Calls.mono (hu1 _) ?_)
              rintro e w3 ⟨rfl, hb3⟩
              have hbr3 := bthen hbr hb3
              have hcell3 := (hb3.cell (World.block_lt_of_cell? _ _ hcell)).trans hcell
              go_wp2_with fail
              refine (Calls.mono (hu2 _) ?_)
              rintro e w4 ⟨rfl, hb4⟩
              have hbr4 := bthen hbr3 hb4
              go_wp2_with fail
              go_ret2
              exact ⟨⟨none, 0, by rw [hG.out.1, hG.out.2]; rfl, by rw [hG.out.1]; exact PairsAt.nil_ _ _, (fun p h => by cases h), by rw [hG.out.1]; exact Nat.le_refl _⟩, bthen hb1 hbr4⟩
            · have hyes : unPairO x = some (a, b) := by rw [HPO.out, p1, r1]; rfl
              have HP1 := Lib.hid (HB.out _ hyes)
              simp only [p2, p3] at hu1
              simp only [r2, r3] at hu2
              clear p1 p2 p3 r1 r2 r3 hyes
              go_wp2_with fail
              refine (Calls.mono (hfi wr) ?_)
              rintro e w2 ⟨rfl, rfl⟩
              go_wp2_with fail
              refine (Calls.mono (hu1 _) ?_)
              rintro e w3 ⟨rfl, hb3⟩
              have hbr3 := bthen hbr hb3
              have hcell3 := (hb3.cell (World.block_lt_of_cell? _ _ hcell)).trans hcell
              go_wp2_with fail
              refine (Calls.mono (hu2 _) ?_)
              rintro e w4 ⟨rfl, hb4⟩
              have hbr4 := bthen hbr3 hb4
              have hown4 := own_below (own_below hown hb3) hb4
              go_wp2_with (at_builtin; refine wpList_append_own _ rfl _ _ 35 rfl w1.heap.size 37 i0 (.agg #[.string ByteArray.empty, .string ByteArray.empty]) 2 32 Tryd.underlying35 hi hz0 hz1 hz2 rfl (by decide) _ _ _ rfl (hown4.alloc _) ⟨w4.heap.size, 0, none⟩ 1 1 [.string a, .string b] rfl rfl (cell_two_new _ _ _ _) (by intro u hu; simp at hu; rcases hu with rfl | rfl <;> rfl) (by unfold maxLen; omega) (by omega) (by have := hbr4.size; simp; omega) ?_; intro v' w5 hown5 hg5 _)
              have HBw : Hid (Below w1.heap.size w1 w5) := Lib.hid ((hbr4.alloc hbr4.size _).grown hg5 (by have := hbr4.size; simp; omega) (fun q hq => (hown4.lt q hq).1))
              have HOw : Hid (w5.ownsRow w1.heap.size 37 2 v' (k + 1) (prVs (U ++ [(a, b)]))) := by
                show World.ownsRow _ _ _ _ _ _ _
                rw [← prVs_snoc]; exact hown5
              clear hown5 hg5
              go_wp2_with fail
              go_roundw
              case rel => exact ⟨k + 1, U ++ [(a, b)], hlt, by go_num, by rw [List.length_append, HU.out]; rfl, HOw.out, HP1, HBw.out⟩
              case measure => simp [intOf]; omega
        · have HNO : Hid (unPairO x = none) := Lib.hid (by rw [unPairO, if_neg hok])
          have hG := Lib.hid (rp_none (HA.out HNO.out))
          obtain ⟨z, hz⟩ : ∃ z, cutI x 61 = z := ⟨_, rfl⟩
          have hzn : z < 0 := by omega
          simp only [hz] at hfi
          clear hok hz
          go_wp2_with fail
          refine (Calls.mono (hfi wr) ?_)
          rintro e w2 ⟨rfl, rfl⟩
          go_wp2_with fail
          go_ret2
          exact ⟨⟨none, 0, by rw [hG.out.1, hG.out.2]; rfl, by rw [hG.out.1]; exact PairsAt.nil_ _ _, (fun p h => by cases h), by rw [hG.out.1]; exact Nat.le_refl _⟩, bthen hb1 hbr⟩
      · have hG := Lib.hid (rp_some (ps_end (by rw [HN.out]; exact hlt) HP.out))
        go_wp2_with fail
        go_ret2
        refine ⟨?_, bthen hb1 hbr⟩
        rw [hG.out.1, hG.out.2]
        obtain ⟨A', c', e', q1, q2, q3⟩ := RetPairs2.own (c := 0) hown hU
        exact ⟨A', c', e', q1, (fun p hp => Nat.le_trans hb1.size (q2 p hp)), q3⟩
end Go.Proofs.YtnkblimmlkidcaaDoor
