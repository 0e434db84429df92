/- codec.ReadInt computes readIntP. -/
import Derived.Test.YtnkblimmlkidcaaDoorCodIntP
import Derived.Test.YtnkblimmlkidcaaDoorErrs
import Derived.Laws.RangeAny
import Derived.Lib.AtoiErrMem
import Derived.Lib.ConvBytes
namespace Go.Proofs.YtnkblimmlkidcaaDoor
open Go.RowKit

theorem ret_ii {a b x y : Int} (h1 : a = b) (h2 : x = y) : Ending.returned (.tuple #[.int .i64 a, .int .i64 x]) = .returned (.tuple #[.int .i64 b, .int .i64 y]) := by rw [h1, h2]
theorem ret_pp {p : Int × Int} {a x : Int} (h : p = (a, x)) : Ending.returned (.tuple #[.int .i64 a, .int .i64 x]) = .returned (.tuple #[.int .i64 p.1, .int .i64 p.2]) := by rw [h]
/-- The form by what stands behind the sign. -/
def trimB (s : ByteArray) : ByteArray := ⟨(Lib.trimPrefix s.data.toList [45]).toArray⟩
theorem trim_size (s : ByteArray) : (trimB s).size ≤ s.size := by
  show (Lib.trimPrefix s.data.toList [45]).toArray.size ≤ _
  unfold Lib.trimPrefix
  split
  · simp
  · simp
theorem trim_cases (l : List UInt8) : (∃ r, l = 45 :: r ∧ Lib.trimPrefix l [45] = r) ∨ (l = [] ∧ Lib.trimPrefix l [45] = []) ∨ (∃ c r, l = c :: r ∧ c ≠ 45 ∧ Lib.trimPrefix l [45] = l) := by
  cases l with
  | nil => exact .inr (.inl ⟨rfl, by simp [Lib.trimPrefix]⟩)
  | cons c r =>
    by_cases hc : c = 45
    · subst hc
      exact .inl ⟨r, rfl, by simp [Lib.trimPrefix, Lib.hasPrefix]⟩
    · refine .inr (.inr ⟨c, r, rfl, hc, ?_⟩)
      have : Lib.hasPrefix (c :: r) [45] = false := by
        rw [Lib.hasPrefix]
        simp [List.isPrefixOf]
        exact fun h => hc h.symm
      rw [Lib.trimPrefix, this]; rfl
theorem form_empty {s : ByteArray} (h : (trimB s).size = 0) : intForm s.data.toList = false := by
  have e : Lib.trimPrefix s.data.toList [45] = [] := by
    have : (Lib.trimPrefix s.data.toList [45]).toArray.size = 0 := h
    exact List.eq_nil_of_length_eq_zero (by simpa using this)
  rcases trim_cases s.data.toList with ⟨r, h1, h2⟩ | ⟨h1, _⟩ | ⟨c, r, h1, _, h2⟩
  · rw [h1, intForm, if_pos rfl, show r = [] from h2.symm.trans e]; rfl
  · rw [h1]; rfl
  · rw [h2, h1] at e; cases e
theorem trim_list (s : ByteArray) : (trimB s).data.toList = Lib.trimPrefix s.data.toList [45] := by simp [trimB]
theorem head_of {t : ByteArray} (h : 0 < t.size) : t.data.toList = t[0] :: t.data.toList.drop 1 := by
  have := drop_cons t 0 h
  rwa [List.drop_zero] at this
/-- A leading nought. -/
theorem form_lead {s : ByteArray} (h : 0 < (trimB s).size) (h48 : (trimB s)[0].toNat = 48) (hs : s ≠ ⟨#[48]⟩) : intForm s.data.toList = false := by
  have hh := head_of h
  rw [trim_list] at hh
  rcases trim_cases s.data.toList with ⟨r, h1, h2⟩ | ⟨h1, h2⟩ | ⟨c, r, h1, h3, h2⟩
  · rw [h2] at hh
    rw [h1, intForm, if_pos rfl, hh, decL]
    simp [h48]
  · rw [h2] at hh; cases hh
  · rw [h2, h1] at hh
    injection hh with e1 e2
    rw [h1, intForm, if_neg h3, decL, e1]
    have hr : r ≠ [] := by
      intro hr
      apply hs
      apply ByteArray.ext; apply Array.toList_inj.1
      rw [h1, hr, e1]
      show [_] = [_]
      congr 1
      exact UInt8.toNat_inj.1 (by rw [h48]; rfl)
    simp [h48, hr]
theorem form_other {s : ByteArray} (h : 0 < (trimB s).size) (h48 : (trimB s)[0].toNat ≠ 48) : intForm s.data.toList = (trimB s).data.toList.all digC := by
  have hh := head_of h
  have hl := trim_list s
  rw [hl] at hh
  rcases trim_cases s.data.toList with ⟨r, h1, h2⟩ | ⟨h1, h2⟩ | ⟨c, r, h1, h3, h2⟩
  · rw [h2] at hh hl
    rw [hl, h1, intForm, if_pos rfl, hh, decL, decide_eq_false h48]; rfl
  · rw [h2] at hh; cases hh
  · rw [h2, h1] at hh hl
    injection hh with e1 e2
    rw [hl, h1, intForm, if_neg h3, decL, e1, decide_eq_false h48]; rfl
theorem form_nought : intForm (⟨#[48]⟩ : ByteArray).data.toList = (trimB ⟨#[48]⟩).data.toList.all digC := by decide +kernel

/-- strconv.Atoi at a decimal form. -/
theorem atoi_ok (s : ByteArray) (w : World) (hf : intForm s.data.toList = true) (hr : inInt (intVal s.data.toList)) (hs : s.size ≤ 1000000) :
    Calls Tryd.prog 49 #[.string s] w fun e w' => e = .returned (.tuple #[.int .i64 (intVal s.data.toList), .nilIface]) ∧ Below w.heap.size w w' := by
  refine (Tryd.strconv_Atoi_ok s (by omega) (intVal s.data.toList) (by rw [atoi_form hf, if_pos hr]) w).mono ?_
  rintro e w' ⟨he, hw⟩
  refine ⟨he, ?_⟩
  rcases hw with rfl | ⟨t, rfl⟩
  · exact Below.refl _ _
  · exact Lib.bytesWorld_below w _ t
theorem atoi_range (s : ByteArray) (w : World) (hf : intForm s.data.toList = true) (hr : ¬ inInt (intVal s.data.toList)) (hs : s.size ≤ 1000000) (hE : ErrsOk w) :
    Calls Tryd.prog 49 #[.string s] w fun e w' => (∃ (u : Int) (t : TypeId) (p : Value), e = .returned (.tuple #[.int .i64 u, .iface t p])) ∧ Below w.heap.size w w' := by
  obtain ⟨_, ⟨t', p', h2⟩, _, _⟩ := hE
  refine (Tryd.strconv_Atoi_range_var s (by omega) (by rw [atoi_form hf, if_neg hr]) t' p' w h2).mono ?_
  rintro e w' ⟨N, he, _, _, hb⟩
  exact ⟨⟨_, _, _, he⟩, hb⟩

set_option maxHeartbeats 4000000 in
set_option maxRecDepth 100000 in
theorem readint_any (s : ByteArray) (w : World) (hs : s.size ≤ 1000000) (hE : ErrsOk w) :
    Calls Tryd.prog 28 #[.string s] w fun e w' => e = .returned (.tuple #[.int .i64 (readIntP s).1, .int .i64 (readIntP s).2]) ∧ Below w.heap.size w w' := by
  have htr : Calls Tryd.prog 48 #[.string s, .string ⟨#[45]⟩] w fun e w' => e = .returned (.string (trimB s)) ∧ w = w' := (Tryd.strings_TrimPrefix s ⟨#[45]⟩ w).mono fun _ _ h => ⟨h.1, h.2.symm⟩
  have htz := trim_size s
  have hcs : (((s.toList == [48]) = false) ∧ (trimB s).size = 0 ∧ intForm s.data.toList = false) ∨ (((s.toList == [48]) = false) ∧ (∃ h : 0 < (trimB s).size, (trimB s)[0].toNat = 48) ∧ intForm s.data.toList = false) ∨ ((((s.toList == [48]) = false) ∧ ∃ h : 0 < (trimB s).size, (trimB s)[0].toNat ≠ 48) ∧ intForm s.data.toList = (trimB s).data.toList.all digC) ∨ (s = ⟨#[48]⟩ ∧ intForm s.data.toList = (trimB s).data.toList.all digC) := by
    by_cases h0 : s = ⟨#[48]⟩
    · exact .inr (.inr (.inr ⟨h0, by rw [h0]; exact form_nought⟩))
    · have hne : (s.toList == [48]) = false := by
        have := str_ne h0
        rwa [show (⟨#[48]⟩ : ByteArray).toList = [48] by rw [Lib.toList_data]] at this
      by_cases h1 : (trimB s).size = 0
      · exact .inl ⟨hne, h1, form_empty h1⟩
      · have hp : 0 < (trimB s).size := by omega
        by_cases h2 : (trimB s)[0].toNat = 48
        · exact .inr (.inl ⟨hne, ⟨hp, h2⟩, form_lead hp h2 h0⟩)
        · exact .inr (.inr (.inl ⟨⟨hne, hp, h2⟩, form_other hp h2⟩))
  generalize trimB s = t at *
  have HC := Lib.hid hcs
  have HT := Lib.hid htr
  clear htr hcs
  have hse := hs
  rcases HC.out with ⟨hq, h0, hf⟩ | ⟨hq, ⟨hp, h48⟩, hf⟩ | hrest
  · have hG := Lib.hid (readInt_form hf)
    have hte : t.toList.isEmpty = true := by
      rw [Lib.toList_data, List.isEmpty_iff]
      exact List.eq_nil_of_length_eq_zero (by simpa using h0)
    clear hf h0
    go_enter Tryd.func28, Tryd.ntmps28
    go_wp2_with fail
    refine (Calls.mono HT.out ?_)
    rintro e w1 ⟨rfl, rfl⟩
    go_wp2_with fail
    go_ret2
    exact ⟨ret_pp hG.out, Below.refl _ _⟩
  · have hG := Lib.hid (readInt_form hf)
    have hb : ((t[0].toNat : Int) == 48) = true := by rw [h48]; rfl
    have hte : t.toList.isEmpty = false := by
      rw [Lib.toList_data, head_of hp]; rfl
    clear hf h48
    go_enter Tryd.func28, Tryd.ntmps28
    go_wp2_with fail
    refine (Calls.mono HT.out ?_)
    rintro e w1 ⟨rfl, rfl⟩
    go_wp2_with fail
    go_ret2
    exact ⟨ret_pp hG.out, Below.refl _ _⟩
  · have hr2 : ((((s.toList == [48]) = false) ∧ t.toList.isEmpty = false ∧ ∃ h : 0 < t.size, ((t[0].toNat : Int) == 48) = false) ∨ s = ⟨#[48]⟩) ∧ Hid (intForm s.data.toList = t.data.toList.all digC) := by
      rcases hrest with ⟨⟨hq, hp, h48⟩, hf⟩ | ⟨h, hf⟩
      · exact ⟨.inl ⟨hq, by rw [Lib.toList_data, head_of hp]; rfl, hp, by rw [beq_eq_false_iff_ne]; omega⟩, Lib.hid hf⟩
      · exact ⟨.inr h, Lib.hid hf⟩
    obtain ⟨hr3, HF⟩ := hr2
    clear hrest HC
    have hbad : Hid (t.data.toList.all digC = false → readIntP s = (0, 4)) := Lib.hid (fun h => readInt_form (HF.out.trans h))
    have hgood : Hid (t.data.toList.all digC = true → inInt (intVal s.data.toList) → readIntP s = (intVal s.data.toList, 0)) := Lib.hid (fun h hr => readInt_ok (HF.out.trans h) hr)
    have hover : Hid (t.data.toList.all digC = true → ¬ inInt (intVal s.data.toList) → readIntP s = (0, 27)) := Lib.hid (fun h hr => readInt_range (HF.out.trans h) hr)
    have hA := Lib.hid (fun wq hd hr => atoi_ok s wq (HF.out.trans hd) hr hs)
    have hB := Lib.hid (fun wq hd hr hE => atoi_range s wq (HF.out.trans hd) hr hs hE)
    clear HF
    generalize readIntP s = Z at *
    rcases hr3 with ⟨hq, hte, hp, hb⟩ | rfl
    all_goals
      generalize intVal _ = V at *
      go_enter Tryd.func28, Tryd.ntmps28
      go_wp2_with fail
      refine (Calls.mono HT.out ?_)
      rintro e w1 ⟨rfl, rfl⟩
      go_wp2_with fail
      go_loopw [6] (fun _ wr => ∃ pos : Nat, wr = w.iter t pos ∧ Hid ((t.data.toList.take pos).all digC = true) ∧ pos ≤ t.size) (fun _ wr => t.size - wr.iterPos w.heap.size)
      case atStart => exact ⟨0, rfl, Lib.hid (by simp), by omega⟩
      case round =>
        obtain ⟨pos, rfl, HD, hpos⟩ := hrel
        by_cases hlt : pos < t.size
        · obtain ⟨c, hc⟩ : ∃ c, t[pos].toNat = c := ⟨_, rfl⟩
          have HC := Lib.hid hc
          by_cases ha : c < 128
          · have hnx : ∀ ty, (Instr.next (.pointer (some ⟨w.heap.size, 0, none⟩)) true ty).run Tryd.prog (w.iter t pos) = .ok (.tuple #[.bool true, .int .i64 pos, .int .i32 c]) (w.iter t (pos + 1)) := fun ty => by
              have := run_next_ascii (P := Tryd.prog) w t pos ty hlt (by omega)
              rwa [hc] at this
            have hcs : c < 48 ∨ 57 < c ∨ (48 ≤ c ∧ c ≤ 57) := by omega
            clear hc
            rcases hcs with h1 | h1 | ⟨h1, h2⟩
            · have hG := Lib.hid (hbad.out (dig_bad hlt (by rw [digC, HC.out]; simp; omega)))
              go_wp2_with fail
              go_ret2
              exact ⟨ret_pp hG.out, (Below.refl _ _).alloc (Nat.le_refl _) _⟩
            · have hG := Lib.hid (hbad.out (dig_bad hlt (by rw [digC, HC.out]; simp; omega)))
              go_wp2_with fail
              go_ret2
              exact ⟨ret_pp hG.out, (Below.refl _ _).alloc (Nat.le_refl _) _⟩
            · have HD1 : Hid ((t.data.toList.take (pos + 1)).all digC = true) := Lib.hid (dig_all hlt HD.out (by rw [digC, HC.out]; simp; omega))
              go_wp2_with fail
              go_roundw
              case rel => exact ⟨pos + 1, rfl, HD1, by omega⟩
              case measure => simp; omega
          · have hdec := (decode_high t pos hlt (by omega)).1
            have hG := Lib.hid (hbad.out (dig_bad hlt (by rw [digC, HC.out]; simp; omega)))
            obtain ⟨r, hr⟩ : ∃ r, (Utf8.decode t pos).1 = r := ⟨_, rfl⟩
            obtain ⟨q, hq⟩ : ∃ q, pos + (Utf8.decode t pos).2 = q := ⟨_, rfl⟩
            have hnx : ∀ ty, (Instr.next (.pointer (some ⟨w.heap.size, 0, none⟩)) true ty).run Tryd.prog (w.iter t pos) = .ok (.tuple #[.bool true, .int .i64 pos, .int .i32 r]) (w.iter t q) := fun ty => by
              have := run_next_any (P := Tryd.prog) w t pos ty hlt
              rwa [hr, hq] at this
            rw [hr] at hdec
            clear hc hr hq
            go_wp2_with fail
            go_ret2
            exact ⟨ret_pp hG.out, (Below.refl _ _).alloc (Nat.le_refl _) _⟩
        · have hnx : ∀ ty, (Instr.next (.pointer (some ⟨w.heap.size, 0, none⟩)) true ty).run Tryd.prog (w.iter t pos) = .ok (.tuple #[.bool false]) (w.iter t pos) := fun ty => run_next_end w t pos ty hlt
          have HT1 : Hid (t.data.toList.all digC = true) := Lib.hid (by have h := HD.out; rwa [List.take_of_length_le (by simp; have : t.size = t.data.size := rfl; omega)] at h)
          have HBw : Hid (Below w.heap.size w (w.iter t pos)) := Lib.hid ((Below.refl _ _).alloc (Nat.le_refl _) _)
          by_cases hin : inInt V
          · have hG := Lib.hid (hgood.out HT1.out hin)
            have HA := Lib.hid (fun wq => hA.out wq HT1.out hin)
            clear hin
            go_wp2_with fail
            refine (Calls.mono (HA.out _) ?_)
            rintro e w2 ⟨rfl, hb2⟩
            go_wp2_with fail
            go_ret2
            exact ⟨ret_pp hG.out, bthen HBw.out hb2⟩
          · have hG := Lib.hid (hover.out HT1.out hin)
            have HA := Lib.hid (fun wq => hB.out wq HT1.out hin)
            clear hin
            go_wp2_with fail
            refine (Calls.mono (HA.out _ (hE.below HBw.out)) ?_)
            rintro e w2 ⟨⟨u, ti, p, rfl⟩, hb2⟩
            go_wp2_with fail
            go_ret2
            exact ⟨ret_pp hG.out, bthen HBw.out hb2⟩
end Go.Proofs.YtnkblimmlkidcaaDoor
