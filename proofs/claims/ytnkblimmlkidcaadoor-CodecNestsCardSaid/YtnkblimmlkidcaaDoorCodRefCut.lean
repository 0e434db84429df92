/- identityref02.Cut. -/
import Derived.Test.YtnkblimmlkidcaaDoorCodStrs
import Derived.Test.YtnkblimmlkidcaaDoorStrs
import Derived.Test.YtnkblimmlkidcaaDoorCodRef64
import Derived.Deep.AppendLies
import Derived.Deep.RegionHeld3
namespace Go.Proofs.YtnkblimmlkidcaaDoor
open Go.RowKit

set_option maxHeartbeats 2000000 in
set_option maxRecDepth 100000 in
theorem rcut_any (s : ByteArray) (c : UInt8) (w : World) (hs : s.size ≤ 1000000000) :
    Calls Tryd.prog 45 #[.string s, .int .u8 (c.toNat : Int)] w fun e w' => RetStrs w.heap.size w' e (cutsS s c) ∧ Below w.heap.size w w' := by
  obtain ⟨i0, hi, hz0, hz1, hz2⟩ := info_parts Tryd.info_s
  go_enter Tryd.func45, Tryd.ntmps45
  go_wp2_with fail
  go_loopw [5, 6, 7] (fun v fr i wr => ∃ (k f : Nat) (P : List ByteArray), k ≤ s.size ∧ f ≤ k ∧ i = .int .i64 k ∧ fr = .int .i64 f ∧ wr.ownsRow w.heap.size 9 1 v P.length (strVs P) ∧ Hid (P ++ cutsL c (s.data.toList.drop f) = cutsS s c) ∧ Hid (c ∉ (s.data.toList.take k).drop f) ∧ P.length ≤ k ∧ Below w.heap.size w wr) (fun _ _ i _ => s.size - (intOf i).toNat)
  case atStart => exact ⟨0, 0, [], Nat.zero_le _, Nat.zero_le _, rfl, rfl, World.ownsRow_nil _ _ _ _, Lib.hid rfl, Lib.hid (by simp), Nat.zero_le _, Below.refl _ _⟩
  case round =>
    obtain ⟨k, f, P, hk, hf, rfl, rfl, hown, HP, HN, hpl, hbr⟩ := hrel
    by_cases hlt : k < s.size
    · by_cases hc : s[k] = c
      · have HC := Lib.hid hc
        have hceq : ((s[k].toNat : Int) == (c.toNat : Int)) = true := by rw [hc]; simp
        clear hc
        go_wp2_with (at_builtin; refine wpList_append_own _ rfl _ _ 29 rfl w.heap.size 9 i0 (.string ByteArray.empty) 1 16 Tryd.underlying29 hi hz0 hz1 hz2 rfl (by decide) _ _ _ rfl (hown.alloc _) ⟨wr.heap.size, 0, none⟩ 1 1 [strV (s.extract f k)] rfl rfl (cell_one_new _ _ _) (by intro u hu; simp at hu; subst hu; rfl) (by unfold maxLen; omega) (by omega) (by have := hbr.size; simp; omega) ?_; intro v' w1 hown1 hg1 _)
        have hb1 : Below w.heap.size w w1 := (hbr.alloc (hbr.size) _).grown hg1 (by have := hbr.size; simp; omega) (fun q hq => (hown.lt q hq).1)
        have HO : Hid (w1.ownsRow w.heap.size 9 1 v' (P ++ [s.extract f k]).length (strVs (P ++ [s.extract f k]))) := by
          show World.ownsRow _ _ _ _ _ _ _
          rw [← strVs_snoc, List.length_append]; exact hown1
        clear hown1 hg1
        go_wp2_with fail
        go_roundw
        case rel => exact ⟨k + 1, k + 1, P ++ [s.extract f k], by omega, by omega, by go_num, by go_num, HO.out, Lib.hid (cuts_step hf hlt HC.out HN.out HP.out), Lib.hid (by simp), by simp; omega, hb1⟩
        case measure => simp [intOf]; omega
      · have HC := Lib.hid hc
        have hcne : ((s[k].toNat : Int) == (c.toNat : Int)) = false := by
          rw [beq_eq_false_iff_ne]
          intro e
          exact hc (UInt8.toNat_inj.1 (by omega))
        clear hc
        go_wp2_with fail
        go_roundw
        case rel => exact ⟨k + 1, f, P, by omega, by omega, by go_num, rfl, hown, HP, Lib.hid (cuts_next hf hlt HC.out HN.out), by omega, hbr⟩
        case measure => simp [intOf]; omega
    · have HE := Lib.hid (cuts_end hlt HN.out HP.out)
      go_wp2_with (at_builtin; refine wpList_append_own _ rfl _ _ 29 rfl w.heap.size 9 i0 (.string ByteArray.empty) 1 16 Tryd.underlying29 hi hz0 hz1 hz2 rfl (by decide) _ _ _ rfl (hown.alloc _) ⟨wr.heap.size, 0, none⟩ 1 1 [strV (s.extract f s.size)] rfl rfl (cell_one_new _ _ _) (by intro u hu; simp at hu; subst hu; rfl) (by unfold maxLen; omega) (by omega) (by have := hbr.size; simp; omega) ?_; intro v' w1 hown1 hg1 _)
      have hb1 : Below w.heap.size w w1 := (hbr.alloc (hbr.size) _).grown hg1 (by have := hbr.size; simp; omega) (fun q hq => (hown.lt q hq).1)
      have HO : Hid (w1.ownsRow w.heap.size 9 1 v' (P ++ [s.extract f s.size]).length (strVs (P ++ [s.extract f s.size]))) := by
        show World.ownsRow _ _ _ _ _ _ _
        rw [← strVs_snoc, List.length_append]; exact hown1
      clear hown1 hg1
      go_wp2_with fail
      go_ret
      refine ⟨?_, hb1⟩
      have ho := HO.out
      rw [HE.out] at ho
      exact RetStrs.own ho rfl (strVs_at _)
end Go.Proofs.YtnkblimmlkidcaaDoor
