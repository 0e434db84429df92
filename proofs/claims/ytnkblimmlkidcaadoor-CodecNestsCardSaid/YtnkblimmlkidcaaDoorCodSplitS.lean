/- strings.Split at a separator of one byte. -/
import Derived.Test.YtnkblimmlkidcaaDoorCodSplitP
import Derived.Test.YtnkblimmlkidcaaDoorShelf
import Derived.Test.YtnkblimmlkidcaaDoorStrs
import Derived.Laws.OwnMore
import Derived.IntWalk
namespace Go.Proofs.YtnkblimmlkidcaaDoor
open Go.RowKit

theorem count_any (s : ByteArray) (c : UInt8) (w : World) :
    Calls Tryd.prog 65 #[.string s, .string ⟨#[c]⟩] w fun e w' => e = .returned (.int .i64 ((cutsS s c).length - 1 : Int)) ∧ w = w' := by
  refine (Tryd.strings_Count_one s c w).mono ?_
  rintro e w' ⟨rfl, rfl⟩
  refine ⟨ret_int ?_, rfl⟩
  rw [cutsS_len]; unfold Lib.countByte; omega
theorem index_one (s : ByteArray) (c : UInt8) (z : Int) (w : World) (h : cutI s c = z) :
    Calls Tryd.prog 66 #[.string s, .string ⟨#[c]⟩] w fun e w' => e = .returned (.int .i64 z) ∧ w = w' := by
  refine (Tryd.strings_Index_one s c w).mono ?_
  rintro e w' ⟨rfl, rfl⟩
  exact ⟨ret_int h, rfl⟩

theorem mid_at {L P R : List ByteArray} {q : ByteArray} {k : Nat} (h : L = P ++ q :: R) (hk : P.length = k) (hl : k < L.length) : L[k] = q := by
  subst h; subst hk; simp

set_option maxHeartbeats 2000000 in
set_option maxRecDepth 100000 in
theorem genSplit_any (s : ByteArray) (c : UInt8) (w : World) (hs : s.size ≤ 1000000000) :
    Calls Tryd.prog 54 #[.string s, .string ⟨#[c]⟩, .int .i64 0, .int .i64 (-1)] w fun e w' => ∃ xs cap, e = .returned (.slice (some ⟨w.heap.size, 0, none⟩) (cutsS s c).length cap) ∧ (cutsS s c).length ≤ cap ∧ w'.ownsRow w.heap.size 9 1 (.slice (some ⟨w.heap.size, 0, none⟩) (cutsS s c).length cap) (cutsS s c).length xs ∧ Done xs (cutsS s c) (cutsS s c).length ∧ Below w.heap.size w w' := by
  obtain ⟨i0, hi, hz0, hz1, hz2⟩ := info_parts Tryd.info_s
  have hle := cutsS_le s c
  have hpos : 1 ≤ (cutsS s c).length := by rw [cutsS_len]; omega
  obtain ⟨N, hN⟩ : ∃ N, (cutsS s c).length = N := ⟨_, rfl⟩
  have HC := count_any s c w
  rw [hN] at HC hle hpos
  have HN := Lib.hid hN
  have hmin : min (N : Int) ((s.size : Int) + 1) = N := by omega
  rw [hN]
  clear hN
  go_enter Tryd.func54, Tryd.ntmps54
  go_wp2_with fail
  refine HC.mono ?_
  rintro e w1 ⟨rfl, rfl⟩
  clear HC
  go_wp2_with (at_make; refine wpList_make_full _ rfl _ _ 29 rfl w.heap.size 9 i0 (.string ByteArray.empty) 1 Tryd.underlying29 hi hz0 hz1 .i64 .i64 _ _ N rfl rfl rfl rfl (by rw [hz2]; omega) (by unfold maxLen; omega) (Nat.le_refl _) ?_; intro w1 hown1 hg1)
  have HB1 := Lib.hid ((Below.refl w.heap.size w).grown hg1 (Nat.le_refl _) (by intro k hk; cases hk))
  clear hg1
  go_wp2_with fail
  go_loopw [0, 10, 11] (fun sv i _ wr => ∃ (t : ByteArray) (k : Nat) (xs : List Value) (P : List ByteArray), k + 1 ≤ N ∧ sv = .string t ∧ i = .int .i64 k ∧ t.size ≤ s.size ∧ Hid (P.length = k ∧ cutsS s c = P ++ cutsS t c) ∧ wr.ownsRow w.heap.size 9 1 (.slice (some ⟨w.heap.size, 0, none⟩) N N) N xs ∧ Below w.heap.size w wr ∧ Hid (Done xs (cutsS s c) k)) (fun _ i _ _ => N - (intOf i).toNat)
  case atStart => exact ⟨s, 0, _, [], hpos, rfl, rfl, Nat.le_refl _, Lib.hid ⟨rfl, rfl⟩, hown1, HB1.out, Lib.hid (Done.zero _ _)⟩
  case round =>
    clear hown1
    obtain ⟨t, k, xs, P, hk, rfl, rfl, hts, HP, hown, hbr, HD⟩ := hrel
    have HX : Hid (xs.length = N) := by show _ = _; have := hown.1; omega
    obtain ⟨u, hu⟩ : ∃ u, xs[k]? = some u := ⟨_, List.getElem?_eq_getElem (by rw [HX.out]; exact hk)⟩
    have hcell := (hown.cellAt k (by omega)).trans hu
    have hfr := hown.frozenAt k
    clear hu
    have HLt : Hid ((cutsS t c).length + k = N) := by
      show _ = _
      have h1 := congrArg List.length HP.out.2
      rw [List.length_append, HP.out.1, HN.out] at h1; omega
    by_cases hlt : k + 1 < N
    · obtain ⟨i, hci⟩ := mem_idx (s := t) (c := c) (by have := HLt.out; omega)
      have HI := Lib.hid hci
      have hil : i < t.size := by have := cutI_lt t c; omega
      have HE := Lib.hid (cutsS_hit hci)
      have HM : Hid (∀ hl : k < (cutsS s c).length, (cutsS s c)[k] = t.extract 0 i) := Lib.hid (fun hl => mid_at (P := P) (R := cutsS (t.extract (i + 1) t.size) c) (by rw [← HE.out]; exact HP.out.2) HP.out.1 hl)
      have hP2 : Hid ((P ++ [t.extract 0 i]).length = k + 1 ∧ cutsS s c = (P ++ [t.extract 0 i]) ++ cutsS (t.extract (i + 1) t.size) c) := Lib.hid ⟨by rw [List.length_append, HP.out.1]; rfl, by rw [HP.out.2, HE.out]; simp⟩
      have hlt' : (k : Int) < (N : Int) - 1 := by omega
      have hw1 : IntKind.i64.wrap ((i : Int) + 1) = (i : Int) + 1 := IntWalk.i64_in _ (by omega)
      clear hci
      go_wp2_with fail
      refine (index_one t c i _ HI.out).mono ?_
      rintro e w2 ⟨rfl, rfl⟩
      go_wp2_with fail
      have HS := hown.stored k (.string (t.extract 0 i))
      have HDn : Hid (Done (xs.set k (.string (t.extract 0 i))) (cutsS s c) (k + 1)) := Lib.hid (HD.out.set (by rw [HX.out]; exact hk) (fun hl => by rw [HM.out hl]))
      have hsz : (t.extract (i + 1) t.size).size ≤ s.size := by simp [ByteArray.size_extract]; omega
      go_roundw
      case rel => exact ⟨_, k + 1, _, _, hlt, rfl, by go_num, hsz, hP2, HS.1, hbr.setCell (p := ⟨w.heap.size, k, none⟩) (Nat.le_refl _) _, HDn⟩
      case measure => simp [intOf]; omega
    · have hlt' : ¬ (k : Int) < (N : Int) - 1 := by omega
      have hkN : k + 1 = N := by omega
      have HM1 := Lib.hid (cutsS_miss (s := t) (c := c) (by have := HLt.out; omega))
      have HM : Hid (∀ hl : k < (cutsS s c).length, (cutsS s c)[k] = t) := Lib.hid (fun hl => mid_at (P := P) (R := []) (by rw [← HM1.out]; exact HP.out.2) HP.out.1 hl)
      go_wp2_with fail
      have HS := hown.stored k (.string t)
      have HDn : Done (xs.set k (.string t)) (cutsS s c) N := by
        rw [← hkN]
        exact HD.out.set (by rw [HX.out]; exact hk) (fun hl => by rw [HM.out hl])
      go_ret
      exact ⟨_, N, rfl, Nat.le_refl _, HS.1, HDn, hbr.setCell (p := ⟨w.heap.size, k, none⟩) (Nat.le_refl _) _⟩
/-- strings.Split. -/
theorem ssplit_any (s : ByteArray) (c : UInt8) (w : World) (hs : s.size ≤ 1000000000) :
    Calls Tryd.prog 42 #[.string s, .string ⟨#[c]⟩] w fun e w' => ∃ xs cap, e = .returned (.slice (some ⟨w.heap.size, 0, none⟩) (cutsS s c).length cap) ∧ (cutsS s c).length ≤ cap ∧ w'.ownsRow w.heap.size 9 1 (.slice (some ⟨w.heap.size, 0, none⟩) (cutsS s c).length cap) (cutsS s c).length xs ∧ Done xs (cutsS s c) (cutsS s c).length ∧ Below w.heap.size w w' := by
  go_enter Tryd.func42, Tryd.ntmps42
  go_wp2_with fail
  refine (genSplit_any s c w hs).mono ?_
  rintro e w1 ⟨xs, cap, rfl, h1, h2, h3, h4⟩
  go_wp2_with fail
  go_ret
  exact ⟨xs, cap, rfl, h1, h2, h3, h4⟩
end Go.Proofs.YtnkblimmlkidcaaDoor
