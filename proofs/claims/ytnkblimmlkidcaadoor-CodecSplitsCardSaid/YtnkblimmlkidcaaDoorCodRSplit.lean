/- identityref02.Split computes splitS, splitErr. -/
import Derived.Test.YtnkblimmlkidcaaDoorCodSplit
namespace Go.Proofs.YtnkblimmlkidcaaDoor
open Go.RowKit

set_option maxHeartbeats 4000000 in
set_option maxRecDepth 100000 in
theorem rsplit_any (s : ByteArray) (w : World) (hs : s.size ≤ 1000000) :
    Calls Tryd.prog 22 #[.string s] w fun e w' => RetStrs2 w.heap.size w' e (splitS s) (splitErr s) ∧ Below w.heap.size w w' := by
  obtain ⟨i0, hi, hz0, hz1, hz2⟩ := info_parts Tryd.info_s
  go_enter Tryd.func22, Tryd.ntmps22
  by_cases h1 : s = ⟨#[45]⟩
  · subst h1
    have hG := Lib.hid (split_some splitO_dash)
    go_wp2_with fail
    go_ret2
    exact ⟨⟨none, 0, by rw [hG.out.1, hG.out.2]; rfl, by rw [hG.out.1]; exact Strs.nil_ _ _, (fun p h => by cases h), by rw [hG.out.1]; exact Nat.le_refl _⟩, Below.refl _ _⟩
  · have hd1 := dash_ne' h1
    by_cases h2 : s = ⟨#[37, 50, 68]⟩
    · subst h2
      have hG := Lib.hid (split_some splitO_2d)
      clear hd1 h1
      go_wp2_with fail
      go_ret2
      refine ⟨⟨some ⟨w.heap.size, 0, none⟩, 1, by rw [hG.out.1, hG.out.2]; rfl, ?_, (fun p h => by cases h; exact Nat.le_refl _), by rw [hG.out.1]; exact Nat.le_refl _⟩, (Below.refl _ _).alloc (Nat.le_refl _) _⟩
      rw [hG.out.1]
      intro i hi
      have hi0 : i = 0 := by simpa using hi
      subst hi0
      exact ⟨w.heap.size, 0, rfl, by simp [go_sem]⟩
    · have hd2 : (s.toList == [37, 50, 68]) = false := by
        have := str_ne h2
        rwa [show (⟨#[37, 50, 68]⟩ : ByteArray).toList = [37, 50, 68] by rw [Lib.toList_data]] at this
      have HO := Lib.hid (splitO_else h1 h2)
      clear h1 h2
      have hle := cutsS_le s 124
      have HZ := Lib.hid (cuts_size (s := s) (c := 124))
      go_wp2_with fail
      refine (rcut_any s 124 w (by omega)).mono ?_
      rintro e w1 ⟨⟨A, cap, rfl, hS1, hA1⟩, hb1⟩
      obtain ⟨N, hN⟩ : ∃ N, (cutsS s 124).length = N := ⟨_, rfl⟩
      rw [hN] at hle
      have HN := Lib.hid hN
      rw [hN]
      clear hN
      go_wp2_with fail
      go_loopw [5, 6, 7, 8] (fun v j _ _ wr => ∃ (k : Nat) (U : List ByteArray), k ≤ N ∧ j = .int .i64 k ∧ U.length = k ∧ wr.ownsRow w1.heap.size 9 1 v k (strVs U) ∧ Hid ((unAllO ((cutsS s 124).drop k)).map (U ++ ·) = splitO s) ∧ Below w1.heap.size w1 wr) (fun _ i _ _ _ => N - (intOf i).toNat)
      case atStart => exact ⟨0, [], Nat.zero_le _, rfl, rfl, World.ownsRow_nil _ _ _ _, Lib.hid (by rw [HO.out]; simp), Below.refl _ _⟩
      case round =>
        obtain ⟨k, U, hk, rfl, hU, hown, HP, hbr⟩ := hrel
        by_cases hlt : k < N
        · have hlt2 : k < (cutsS s 124).length := by rw [HN.out]; exact hlt
          obtain ⟨b, o, rfl, hcell⟩ := (hS1.below hbr) k hlt2
          have hsz := HZ.out _ (List.getElem_mem hlt2)
          have HA : Hid (unescO (cutsS s 124)[k] = none → splitO s = none) := Lib.hid (fun h => all_none hlt2 h HP.out)
          have HB : Hid (∀ t, unescO (cutsS s 124)[k] = some t → (unAllO ((cutsS s 124).drop (k + 1))).map ((U ++ [t]) ++ ·) = splitO s) := Lib.hid (fun t h => all_step hlt2 h HP.out)
          have HU := Lib.hid hU
          have HL2 := Lib.hid hlt2
          generalize (cutsS s 124)[k] = x at hcell hsz HA HB
          have hun := runesc_any x wr (by omega)
          rcases unesc_case x with ⟨hx1, hx2, hx3⟩ | ⟨t, hx1, hx2, hx3⟩
          · rw [hx2, hx3] at hun
            have hG := Lib.hid (split_none (HA.out hx1))
            clear hx1 hx2 hx3 hU hlt2
            go_wp2_with fail
            refine hun.mono ?_
            rintro e w2 ⟨rfl, hb2⟩
            go_wp2_with fail
            go_ret2
            exact ⟨⟨none, 0, by rw [hG.out.1, hG.out.2]; rfl, by rw [hG.out.1]; exact Strs.nil_ _ _, (fun p h => by cases h), by rw [hG.out.1]; exact Nat.le_refl _⟩, bthen hb1 (bthen hbr hb2)⟩
          · rw [hx2, hx3] at hun
            have HP1 := Lib.hid (HB.out t hx1)
            clear hx1 hx2 hx3 hU hlt2
            go_wp2_with fail
            refine hun.mono ?_
            rintro e w2 ⟨rfl, hb2⟩
            have hown2 := own_below hown hb2
            have hbr2 := bthen hbr hb2
            go_wp2_with (at_builtin; refine wpList_append_own _ rfl _ _ 29 rfl w1.heap.size 9 i0 (.string ByteArray.empty) 1 16 Tryd.underlying29 hi hz0 hz1 hz2 rfl (by decide) _ _ _ rfl (hown2.alloc _) ⟨w2.heap.size, 0, none⟩ 1 1 [strV t] rfl rfl (cell_one_new _ _ _) (by intro u hu; simp at hu; subst hu; rfl) (by unfold maxLen; omega) (by omega) (by have := hbr2.size; simp; omega) ?_; intro v' w3 hown3 hg3 _)
            have HBw : Hid (Below w1.heap.size w1 w3) := Lib.hid ((hbr2.alloc hbr2.size _).grown hg3 (by have := hbr2.size; simp; omega) (fun q hq => (hown2.lt q hq).1))
            have HOw : Hid (w3.ownsRow w1.heap.size 9 1 v' (k + 1) (strVs (U ++ [t]))) := by
              show World.ownsRow _ _ _ _ _ _ _
              rw [← strVs_snoc]; exact hown3
            clear hown3 hg3
            go_wp2_with fail
            go_roundw
            case rel => exact ⟨k + 1, U ++ [t], hlt, by go_num, by rw [List.length_append, HU.out]; rfl, HOw.out, HP1, HBw.out⟩
            case measure => simp [intOf]; omega
        · have hG := Lib.hid (split_some (all_end (by rw [HN.out]; exact hlt) HP.out))
          go_wp2_with fail
          go_ret2
          refine ⟨?_, bthen hb1 hbr⟩
          rw [hG.out.1, hG.out.2]
          obtain ⟨A', c', e', q1, q2, q3⟩ := RetStrs2.own (c := 0) hown hU (strVs_at U)
          exact ⟨A', c', e', q1, (fun p hp => Nat.le_trans hb1.size (q2 p hp)), q3⟩
end Go.Proofs.YtnkblimmlkidcaaDoor
