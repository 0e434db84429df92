/- identityref03.leaves and up compute leavesL and upL. -/
import Derived.Test.YtnbdlehkadiepaaDoorDigTree
namespace Go.Proofs.YtnbdlehkadiepaaDoor
open Go.RowKit

def leafCells (l : List ByteArray) (k : Nat) : List Value := (l.take k).map fun s => strV (leafS s)
theorem leafCells_succ (l : List ByteArray) (k : Nat) (h : k < l.length) : leafCells l k ++ [strV (textS (⟨#[48]⟩ ++ l[k]))] = leafCells l (k + 1) := by
  unfold leafCells
  rw [List.take_succ_eq_append_getElem h, List.map_append]
  rfl

set_option maxHeartbeats 1000000 in
theorem rleaves_any (l : List ByteArray) (A : Option Addr) (c : Nat) (w : World) (hS : Strs w A l) (hl : l.length ≤ 1000000) (hz : ∀ s ∈ l, s.size ≤ 1000000) :
    Calls Tryd.prog 39 #[.slice A l.length c] w fun e w' => RetStrs w.heap.size w' e (leavesL l) ∧ Below w.heap.size w w' := by
  have HZ := Lib.hid hz
  clear hz
  obtain ⟨i0, hi, hz0, hz1, hz2⟩ := info_parts Tryd.info_s
  go_enter Tryd.func39, Tryd.ntmps39
  go_wp2
  go_loopw [3, 4] (fun v i wr => ∃ k : Nat, k ≤ l.length ∧ i = .int .i64 k ∧ wr.ownsRow w.heap.size 9 1 v k (leafCells l k) ∧ Below w.heap.size w wr) (fun _ i _ => l.length - (intOf i).toNat)
  case atStart => exact ⟨0, by omega, rfl, World.ownsRow_nil _ _ _ _, Below.refl _ _⟩
  case round =>
    obtain ⟨k, hk, rfl, hown, hbr⟩ := hrel
    have hgt := hbr.size
    by_cases hlt : k < l.length
    · obtain ⟨b, o, rfl, hc⟩ := (hS.below hbr) k hlt
      have hlb := World.block_lt_of_cell? wr _ hc
      have hsz : l[k].size ≤ 1000000 := HZ.out _ (List.getElem_mem hlt)
      have HR := Lib.hid (leafS_room l[k] hsz)
      have HL := Lib.hid (leafCells_succ l k hlt)
      generalize l[k] = x at *
      go_wp2_with (first
        | (go_at_call 17; refine (rtext_any _ _ HR.out).mono ?_; rintro e w2 ⟨rfl, rfl⟩)
        | (at_builtin; refine wpList_append_own _ rfl _ _ 35 rfl w.heap.size 9 i0 (.string ByteArray.empty) 1 16 Tryd.underlying35 hi hz0 hz1 hz2 rfl (by decide) _ _ _ rfl (hown.alloc _) ⟨wr.heap.size, 0, none⟩ 1 1 [strV (textS (⟨#[48]⟩ ++ x))] rfl rfl (cell_one_new _ _ _) (by intro u hu; simp at hu; subst hu; rfl) (by unfold maxLen; omega) (by omega) (by simp; omega) ?_; intro v' w1 hown1 hg1 _))
      have HB : Hid (Below w.heap.size w w1) := (hbr.alloc hgt _).grown hg1 (by simp; omega) (fun q hq => (hown.lt q hq).1)
      have HO : Hid (w1.ownsRow w.heap.size 9 1 v' (k + 1) (leafCells l (k + 1))) := by
        show World.ownsRow _ _ _ _ _ _ _
        rw [← HL.out]; exact hown1
      clear hown1 hg1
      go_wp2
      go_roundw
      case rel => exact ⟨k + 1, by omega, by go_num, HO.out, HB.out⟩
      case measure => simp [intOf]; omega
    · have HK : Hid (k = l.length) := by show _ = _; omega
      go_wp2
      go_ret
      refine ⟨?_, hbr⟩
      have hlen : (leavesL l).length = k := by rw [HK.out]; simp [leavesL]
      exact RetStrs.own hown hlen (fun j hj => by
        have hj' : j < l.length := by rw [← HK.out, ← hlen]; exact hj
        rw [HK.out]
        simp [leafCells, leavesL, strV, hj'])

set_option maxHeartbeats 1000000 in
theorem rup_any (l : List ByteArray) (A : Option Addr) (c : Nat) (w : World) (hS : Strs w A l) (hl : l.length ≤ 1000000) (hz : ∀ s ∈ l, s.size ≤ 1000000) :
    Calls Tryd.prog 40 #[.slice A l.length c] w fun e w' => RetStrs w.heap.size w' e (upL l) ∧ Below w.heap.size w w' := by
  have HZ := Lib.hid hz
  clear hz
  obtain ⟨i0, hi, hz0, hz1, hz2⟩ := info_parts Tryd.info_s
  go_enter Tryd.func40, Tryd.ntmps40
  go_wp2
  go_loopw [3, 4] (fun v i wr => ∃ k m : Nat, m = 2 * k ∧ m ≤ l.length + 1 ∧ i = .int .i64 m ∧ wr.ownsRow w.heap.size 9 1 v k (upCells l k) ∧ Below w.heap.size w wr) (fun _ i _ => l.length + 2 - (intOf i).toNat)
  case atStart => exact ⟨0, 0, rfl, by omega, rfl, World.ownsRow_nil _ _ _ _, Below.refl _ _⟩
  case round =>
    obtain ⟨k, m, hm, hk, rfl, hown, hbr⟩ := hrel
    have HM := Lib.hid hm
    have hkm : k ≤ 1000000 := by omega
    clear hm
    have hgt := hbr.size
    by_cases hlt : m < l.length
    · obtain ⟨b, o, rfl, hc⟩ := (hS.below hbr) m hlt
      have hlb := World.block_lt_of_cell? wr _ hc
      have hsz : l[m].size ≤ 1000000 := HZ.out _ (List.getElem_mem hlt)
      by_cases he : m + 1 = l.length
      · have HE := Lib.hid he
        have hb : ¬ ((m : Int) + 1 < (l.length : Int)) := by omega
        clear he
        go_wp2_with (at_builtin; refine wpList_append_own _ rfl _ _ 35 rfl w.heap.size 9 i0 (.string ByteArray.empty) 1 16 Tryd.underlying35 hi hz0 hz1 hz2 rfl (by decide) _ _ _ rfl (hown.alloc _) ⟨wr.heap.size, 0, none⟩ 1 1 [strV l[m]] rfl rfl (cell_one_new _ _ _) (by intro u hu; simp at hu; subst hu; rfl) (by unfold maxLen; omega) (by omega) (by simp; omega) ?_; intro v' w1 hown1 hg1 _)
        have HB : Hid (Below w.heap.size w w1) := (hbr.alloc hgt _).grown hg1 (by simp; omega) (fun q hq => (hown.lt q hq).1)
        have HO : Hid (w1.ownsRow w.heap.size 9 1 v' (k + 1) (upCells l (k + 1))) := by
          show World.ownsRow _ _ _ _ _ _ _
          rw [← upCells_succ, upAt_last l k m HM.out hlt HE.out]; exact hown1
        clear hown1 hg1
        go_wp2
        go_roundw
        case rel => exact ⟨k + 1, m + 2, by rw [HM.out]; omega, by omega, by go_num, HO.out, HB.out⟩
        case measure => simp [intOf]; omega
      · have hlt2 : m + 1 < l.length := by omega
        have hc2 : wr.cell? ⟨b, o + (m + 1), none⟩ = some (.string l[m + 1]) := by
          obtain ⟨b', o', e, hc2⟩ := (hS.below hbr) (m + 1) hlt2
          injection e with e; injection e with e1 e2; subst e1; subst e2; exact hc2
        clear he
        have hsz2 : l[m + 1].size ≤ 1000000 := HZ.out _ (List.getElem_mem hlt2)
        have HR := Lib.hid (nodeS_room l[m] l[m + 1] hsz hsz2)
        have hown0 := hown.drew
        have s1 : ¬ 9223372036854775807 < 1 + l[m].size := by omega
        have s2 : ¬ 9223372036854775807 < 1 + l[m].size + l[m + 1].size := by omega
        have i1 : (0 : Int) ≤ (m : Int) := by omega
        have i2 : (m : Int) < (l.length : Int) := by omega
        have i3 : (0 : Int) ≤ (m : Int) + 1 := by omega
        have i4 : (m : Int) + 1 < (l.length : Int) := by omega
        have i5 : ((m : Int) + 1).toNat = m + 1 := by omega
        have i6 : IntKind.i64.wrap ((m : Int) + 1) = (m : Int) + 1 := IntWalk.i64_in _ (by omega)
        go_wp2
        go_region_law (first
            | (refine step_append_lies _ (by rfl) _ _ _ (by rfl) w.heap.size 9 i0 _ 1 16 Tryd.underlying35 hi hz0 hz1 hz2 rfl (by omega) _ k (upCells l k) (by rfl) (hown0.alloc _) ⟨wr.heap.size, 0, none⟩ 1 1 [strV (textS (⟨#[49]⟩ ++ l[m] ++ l[m + 1]))] (by rfl) (by rfl) ?_ ?_ (by omega) (by unfold maxLen; omega) (by omega) ?_ (wr.heap.size + 1) ?_ ?_; exact cell_one_new _ _ _; (intro u hu; simp at hu; subst hu; rfl); (simp; omega); (simp); (intro gg cap w3 hown1 hgrow hat hlt3))
            | (go_simp; go_at_call 17; refine (rtext_any _ _ HR.out).mono ?_; rintro e w2 ⟨rfl, rfl⟩))
        all_goals
          have HB : Hid (Below w.heap.size w w3) := ((hbr.drew).alloc hgt _).grown hgrow (by simp; omega) (fun q hq => (hown.lt q hq).1)
          have HO : Hid (w3.ownsRow w.heap.size 9 1 (.slice (some ⟨gg, 0, none⟩) (k + 1) cap) (k + 1) (upCells l (k + 1))) := by
            show World.ownsRow _ _ _ _ _ _ _
            rw [← upCells_succ, upAt_pair l k m HM.out hlt2]; exact hown1
          clear hown1 hgrow
          go_wp2
          go_roundw
          case rel => exact ⟨k + 1, m + 2, by rw [HM.out]; omega, by omega, by go_num, HO.out, HB.out⟩
          case measure => simp [intOf]; omega
    · have HK : Hid (k = (l.length + 1) / 2) := by show _ = _; have := HM.out; omega
      go_wp2
      go_ret
      refine ⟨?_, hbr⟩
      have hlen : (upL l).length = k := by rw [HK.out]; simp [upL]
      exact RetStrs.own hown hlen (fun j hj => by
        have hj' : j < k := by rw [← hlen]; exact hj
        simp [upCells, upL, strV, hj'])
end Go.Proofs.YtnbdlehkadiepaaDoor
