/- journal.Decode and its reference read the records at the beginning of bytes. -/
import Derived.Test.YtkhdhelhkokdcaaDoorJrnDec
import Derived.Laws.OwnMore
namespace Go.Proofs.YtkhdhelhkokdcaaDoor
open Go.RowKit

theorem fp_none {s : ByteArray} (h : firstO s = none) : (firstP s).2.2 = false := by
  rw [Bool.eq_false_iff]
  intro ht
  rw [firstO_some.2 (first_true ht).1] at h
  cases h
/-- What Decode says. -/
def RetDec (s : ByteArray) (B : Nat) (w' : World) (e : Ending) : Prop := ∃ (v : Value) (l : List ByteArray) (n : Nat), e = .returned (.tuple #[v, .int .i64 n]) ∧ w'.ownsRow B 9 1 v l.length (strVs l) ∧ Dec s l n ∧ (l = [] → v = .slice none 0 0)

set_option maxHeartbeats 4000000 in
set_option maxRecDepth 100000 in
theorem decode_any (s : ByteArray) (w : World) (hd : DigOk w) (hp : PowOk w) (hE : ErrsOk w) (hs : s.size ≤ 1000000) :
    Calls Tryd.prog 10 #[.string s] w fun e w' => RetDec s w.heap.size w' e ∧ Below w.heap.size w w' := by
  obtain ⟨i0, hi, hz0, hz1, hz2⟩ := info_parts Tryd.info_s
  go_enter Tryd.func10, Tryd.ntmps10
  go_wp2_with fail
  go_loopw [4, 5, 6, 7, 8] (fun v a _ _ _ wr => ∃ (l : List ByteArray) (n k : Nat), n ≤ s.size ∧ k ≤ n ∧ a = .int .i64 n ∧ Hid (l.length = k) ∧ wr.ownsRow w.heap.size 9 1 v k (strVs l) ∧ Hid (s.data.toList.take n = encL l ∧ ∀ r ∈ l, r.size ≤ 4096) ∧ Hid (l = [] → v = .slice none 0 0) ∧ Below w.heap.size w wr) (fun _ a _ _ _ _ => s.size - (intOf a).toNat)
  case atStart => exact ⟨[], 0, 0, Nat.zero_le _, by omega, rfl, Lib.hid rfl, World.ownsRow_nil _ _ _ _, Lib.hid ⟨by simp [encL], fun r hr => by simp at hr⟩, Lib.hid (fun _ => rfl), Below.refl _ _⟩
  case round =>
    obtain ⟨l, n, k, hn, hkn, rfl, HK, hown, HT, HNil, hbr⟩ := hrel
    have hxz : (s.extract n s.size).size ≤ 1000000 := by simp [ByteArray.size_extract]; omega
    have HXZ := Lib.hid hxz
    clear hxz
    cases hf : firstO (s.extract n s.size) with
    | none =>
      have HD : Hid (Dec s l n) := Lib.hid ⟨hn, HT.out.1, HT.out.2, hf⟩
      have hfa := fun wq hd hp hE => first_any (s.extract n s.size) wq hd hp hE HXZ.out
      simp only [fp_none hf] at hfa
      generalize (firstP (s.extract n s.size)).1 = fa at hfa
      generalize (firstP (s.extract n s.size)).2.1 = fb at hfa
      clear hf
      go_wp2_with fail
      refine (Calls.mono (hfa _ (hd.below hbr) (hp.below hbr) (hE.below hbr)) ?_)
      rintro e w1 ⟨rfl, hb1⟩
      have hown1 := own_below hown hb1
      have HB := Lib.hid (bthen hbr hb1)
      clear hb1
      go_wp2_with fail
      go_ret2
      have hk := HK.out
      subst hk
      exact ⟨⟨_, l, n, rfl, hown1, HD.out, HNil.out⟩, HB.out⟩
    | some r =>
      have hgd := firstO_some.1 hf
      obtain ⟨hle, htk⟩ := good_enc hgd hn
      have h19 := encS_len r
      have HT1 : Hid (s.data.toList.take (n + (encS r).size) = encL (l ++ [r]) ∧ ∀ x ∈ l ++ [r], x.size ≤ 4096) := Lib.hid ⟨by rw [htk, encL_snoc, HT.out.1], fun x hx => by
        rw [List.mem_append, List.mem_singleton] at hx
        rcases hx with hx | rfl
        · exact HT.out.2 x hx
        · exact hgd.1⟩
      have hrz : r.size ≤ 1000000 := by have := hgd.1; omega
      have HRZ := Lib.hid hrz
      have hfa := fun wq hd hp hE => first_any (s.extract n s.size) wq hd hp hE HXZ.out
      simp only [first_good hgd] at hfa
      clear hf
      go_wp2_with fail
      refine (Calls.mono (hfa _ (hd.below hbr) (hp.below hbr) (hE.below hbr)) ?_)
      rintro e w1 ⟨rfl, hb1⟩
      have hown1 := own_below hown hb1
      have HB1 := Lib.hid (bthen hbr hb1)
      clear hb1
      clear hgd htk hrz
      go_wp2_with (at_builtin; refine wpList_append_own _ rfl _ _ 23 rfl w.heap.size 9 i0 (.string ByteArray.empty) 1 16 Tryd.underlying23 hi hz0 hz1 hz2 rfl (by decide) _ _ _ rfl (hown1.alloc _) ⟨w1.heap.size, 0, none⟩ 1 1 [strV r] rfl rfl (cell_one_new _ _ _) (by intro u hu; simp at hu; subst hu; rfl) (by unfold maxLen; omega) (by omega) (by have := HB1.out.size; simp; omega) ?_; intro v' w2 hown2 hg2 _)
      have HB2 : Hid (Below w.heap.size w w2) := Lib.hid ((HB1.out.alloc HB1.out.size _).grown hg2 (by have := HB1.out.size; simp; omega) (fun q hq => (hown1.lt q hq).1))
      have HOw : Hid (w2.ownsRow w.heap.size 9 1 v' (k + 1) (strVs (l ++ [r]))) := by
        show World.ownsRow _ _ _ _ _ _ _
        rw [← strVs_snoc]; exact hown2
      clear hown2 hg2
      go_wp2_with fail
      go_roundw
      case rel => exact ⟨l ++ [r], n + (encS r).size, k + 1, hle, by omega, by go_num, Lib.hid (by rw [List.length_append, HK.out]; rfl), HOw.out, HT1, Lib.hid (fun h => absurd h (by simp)), HB2.out⟩
      case measure => simp [intOf]; omega

set_option maxHeartbeats 4000000 in
set_option maxRecDepth 100000 in
theorem rdecode_any (s : ByteArray) (w : World) (hs : s.size ≤ 1000000) :
    Calls Tryd.prog 11 #[.string s] w fun e w' => RetDec s w.heap.size w' e ∧ Below w.heap.size w w' := by
  obtain ⟨i0, hi, hz0, hz1, hz2⟩ := info_parts Tryd.info_s
  go_enter Tryd.func11, Tryd.ntmps11
  go_wp2_with fail
  go_loopw [4, 5, 6, 7] (fun v a _ _ wr => ∃ (l : List ByteArray) (n k : Nat), n ≤ s.size ∧ k ≤ n ∧ a = .int .i64 n ∧ Hid (l.length = k) ∧ wr.ownsRow w.heap.size 9 1 v k (strVs l) ∧ Hid (s.data.toList.take n = encL l ∧ ∀ r ∈ l, r.size ≤ 4096) ∧ Hid (l = [] → v = .slice none 0 0) ∧ Below w.heap.size w wr) (fun _ a _ _ _ => s.size - (intOf a).toNat)
  case atStart => exact ⟨[], 0, 0, Nat.zero_le _, by omega, rfl, Lib.hid rfl, World.ownsRow_nil _ _ _ _, Lib.hid ⟨by simp [encL], fun r hr => by simp at hr⟩, Lib.hid (fun _ => rfl), Below.refl _ _⟩
  case round =>
    obtain ⟨l, n, k, hn, hkn, rfl, HK, hown, HT, HNil, hbr⟩ := hrel
    have hxz : (s.extract n s.size).size ≤ 1000000 := by simp [ByteArray.size_extract]; omega
    have HXZ := Lib.hid hxz
    clear hxz
    cases hf : firstO (s.extract n s.size) with
    | none =>
      have HD : Hid (Dec s l n) := Lib.hid ⟨hn, HT.out.1, HT.out.2, hf⟩
      have hfa := fun wq => rfirst_any (s.extract n s.size) wq HXZ.out
      simp only [(fs_none hf).1.symm, (fs_none hf).2.symm] at hfa
      clear hf
      go_wp2_with fail
      refine (Calls.mono (hfa _) ?_)
      rintro e w1 ⟨rfl, hb1⟩
      have hown1 := own_below hown hb1
      have HB := Lib.hid (bthen hbr hb1)
      clear hb1
      go_wp2_with fail
      go_ret2
      have hk := HK.out
      subst hk
      exact ⟨⟨_, l, n, rfl, hown1, HD.out, HNil.out⟩, HB.out⟩
    | some r =>
      have hgd := firstO_some.1 hf
      obtain ⟨hle, htk⟩ := good_enc hgd hn
      have h19 := encS_len r
      have HT1 : Hid (s.data.toList.take (n + (encS r).size) = encL (l ++ [r]) ∧ ∀ x ∈ l ++ [r], x.size ≤ 4096) := Lib.hid ⟨by rw [htk, encL_snoc, HT.out.1], fun x hx => by
        rw [List.mem_append, List.mem_singleton] at hx
        rcases hx with hx | rfl
        · exact HT.out.2 x hx
        · exact hgd.1⟩
      have hrz : r.size ≤ 1000000 := by have := hgd.1; omega
      have HRZ := Lib.hid hrz
      have hfa := fun wq => rfirst_any (s.extract n s.size) wq HXZ.out
      simp only [(fs_some hf).1.symm, (fs_some hf).2.symm] at hfa
      clear hf
      go_wp2_with fail
      refine (Calls.mono (hfa _) ?_)
      rintro e w1 ⟨rfl, hb1⟩
      have hown1 := own_below hown hb1
      have HB1 := Lib.hid (bthen hbr hb1)
      clear hb1
      clear hgd htk hrz
      go_wp2_with (at_builtin; refine wpList_append_own _ rfl _ _ 23 rfl w.heap.size 9 i0 (.string ByteArray.empty) 1 16 Tryd.underlying23 hi hz0 hz1 hz2 rfl (by decide) _ _ _ rfl (hown1.alloc _) ⟨w1.heap.size, 0, none⟩ 1 1 [strV r] rfl rfl (cell_one_new _ _ _) (by intro u hu; simp at hu; subst hu; rfl) (by unfold maxLen; omega) (by omega) (by have := HB1.out.size; simp; omega) ?_; intro v' w2 hown2 hg2 _)
      have HB2 : Hid (Below w.heap.size w w2) := Lib.hid ((HB1.out.alloc HB1.out.size _).grown hg2 (by have := HB1.out.size; simp; omega) (fun q hq => (hown1.lt q hq).1))
      have HOw : Hid (w2.ownsRow w.heap.size 9 1 v' (k + 1) (strVs (l ++ [r]))) := by
        show World.ownsRow _ _ _ _ _ _ _
        rw [← strVs_snoc]; exact hown2
      clear hown2 hg2
      go_wp2_with fail
      refine (renc_any r _ HRZ.out).mono ?_
      rintro e w3 ⟨rfl, hb3⟩
      have HO3 := Lib.hid (own_below HOw.out hb3)
      have HB3 := Lib.hid (bthen HB2.out hb3)
      clear hb3
      go_wp2_with fail
      go_roundw
      case rel => exact ⟨l ++ [r], n + (encS r).size, k + 1, hle, by omega, by go_num, Lib.hid (by rw [List.length_append, HK.out]; rfl), HO3.out, HT1, Lib.hid (fun h => absurd h (by simp)), HB3.out⟩
      case measure => simp [intOf]; omega
end Go.Proofs.YtkhdhelhkokdcaaDoor
