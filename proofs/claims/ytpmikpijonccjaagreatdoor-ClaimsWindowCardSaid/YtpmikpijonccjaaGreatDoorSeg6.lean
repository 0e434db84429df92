/- Joined: ClmEncode, CodReadInt, ClmClock, ClmDec, ClmDecode, StrOrd, ClmNarP, ClmCopy, ClmWithin, RefWord. -/
import Derived.Test.YtpmikpijonccjaaGreatDoorSeg4
import Derived.Test.YtpmikpijonccjaaGreatDoorSeg5
import Derived.Test.YtpmikpijonccjaaGreatDoorSeg3
import Derived.Test.YtpmikpijonccjaaGreatDoorSeg1
import Derived.Laws.RangeAny
import Derived.Lib.AtoiErrMem
import Derived.Lib.ConvBytes
import Derived.Deep.QuietTactic
import Derived.BigQuiet
import Derived.IntWalk
import Derived.Test.YtpmikpijonccjaaGreatDoorSeg2
import Derived.Laws.CopyOwn
import Derived.Deep.Onto
/- claims.Encode. -/
namespace Go.Proofs.YtpmikpijonccjaaGreatDoor
open Go.RowKit

theorem ret_si {s t : ByteArray} {a b : Int} (h1 : s = t) (h2 : a = b) : Ending.returned (.tuple #[.string s, .int .i64 a]) = .returned (.tuple #[.string t, .int .i64 b]) := by rw [h1, h2]
set_option maxHeartbeats 4000000 in
set_option maxRecDepth 100000 in
theorem encode_any (c : Cl) (p : P3) (w : World) (hin : ClIn c p) (hC : ClAt w c p) (hk : KeysOk w) (hp : PowOk w) :
    Calls Tryz.prog 16 #[clV c p] w fun e w' => e = .returned (.tuple #[.string (encV c), .int .i64 (encE c)]) ∧ Below w.heap.size w w' := by
  have B1 : Hid (Below w.heap.size w (w.alloc (clO c p))) := Lib.hid ((Below.refl _ _).alloc (Nat.le_refl _) _)
  have X1 : Hid (ClBox (w.alloc (clO c p)) w.heap.size c p) := Lib.hid (ClBox.new w c p)
  have HC := Lib.hid hC
  have HK := Lib.hid hk
  have HP := Lib.hid hp
  have HI := Lib.hid hin
  clear hC hk hp hin
  obtain ⟨E, HE⟩ : ∃ E, Hid (checkE c = E) := ⟨_, Lib.hid rfl⟩
  obtain ⟨V, HV⟩ : ∃ V, Hid (encV c = V) := ⟨_, Lib.hid rfl⟩
  obtain ⟨G, HG⟩ : ∃ G, Hid (encE c = G) := ⟨_, Lib.hid rfl⟩
  rw [HV.out, HG.out]
  have HB : Hid (E ≠ 0 → G = E ∧ V = ⟨#[]⟩) := Lib.hid (by rw [← HE.out, ← HV.out, ← HG.out]; exact enc_bad)
  have HL : Hid (E = 0 → 4096 < (encS c).size → G = 3 ∧ V = ⟨#[]⟩) := Lib.hid (by rw [← HE.out, ← HV.out, ← HG.out]; exact enc_long)
  have HO : Hid (E = 0 → ¬ 4096 < (encS c).size → G = 0 ∧ V = encS c) := Lib.hid (by rw [← HE.out, ← HV.out, ← HG.out]; exact enc_good)
  go_enter Tryz.func16, Tryz.ntmps16
  go_wp2_with (first | (refine box_cl rfl _ rfl _ rfl c p rfl ?_) | (refine load_cl rfl _ rfl _ rfl w.heap.size rfl c p X1 ?_) | fail)
  refine (check_any c p _ HI.out (HC.out.below B1.out)).mono ?_
  rintro e w2 ⟨rfl, hb2⟩
  rw [HE.out]
  have B2 := Lib.hid (bthen B1.out hb2)
  have X2 := Lib.hid (X1.out.below hb2)
  clear B1 X1 hb2
  by_cases h0 : E = 0
  · have H0 := Lib.hid h0
    have t0 : (E != 0) = false := by rw [h0]; rfl
    have HSM : Hid (ClSmall c) := Lib.hid (check_small (HE.out.trans h0))
    clear h0
    go_wp2_with (first | (refine load_cl rfl _ rfl _ rfl w.heap.size rfl c p X2 ?_) | fail)
    refine (lines_any c p _ HSM.out (HC.out.below B2.out) (HK.out.below B2.out) (HP.out.below B2.out)).mono ?_
    rintro e w3 ⟨rfl, hb3⟩
    have B3 := Lib.hid (bthen B2.out hb3)
    clear hb3
    obtain ⟨S, HS⟩ : ∃ S, Hid (encS c = S) := ⟨_, Lib.hid rfl⟩
    rw [HS.out] at HL HO
    rw [HS.out]
    by_cases hl : 4096 < S.size
    · have HR := Lib.hid (HL.out H0.out hl)
      go_wp2_with fail
      go_ret2
      exact ⟨ret_si HR.out.2.symm HR.out.1.symm, B3.out⟩
    · have HR := Lib.hid (HO.out H0.out hl)
      go_wp2_with fail
      go_ret2
      exact ⟨ret_si HR.out.2.symm HR.out.1.symm, B3.out⟩
  · have t0 : (E != 0) = true := by simp [h0]
    have HR := Lib.hid (HB.out h0)
    clear h0
    go_wp2_with fail
    go_ret2
    exact ⟨ret_si HR.out.2.symm HR.out.1.symm, B2.out⟩
end Go.Proofs.YtpmikpijonccjaaGreatDoor

/- codec.ReadInt computes readIntP. -/
namespace Go.Proofs.YtpmikpijonccjaaGreatDoor
open Go.RowKit

theorem ret_ii {a b x y : Int} (h1 : a = b) (h2 : x = y) : Ending.returned (.tuple #[.int .i64 a, .int .i64 x]) = .returned (.tuple #[.int .i64 b, .int .i64 y]) := by rw [h1, h2]
theorem ret_pp {p : Int × Int} {a x : Int} (h : p = (a, x)) : Ending.returned (.tuple #[.int .i64 a, .int .i64 x]) = .returned (.tuple #[.int .i64 p.1, .int .i64 p.2]) := by rw [h]
/-- The form by what stands behind the sign. -/
def trimB (s : ByteArray) : ByteArray := ⟨(Lib.trimPrefix s.data.toList [45]).toArray⟩
theorem trim_size (s : ByteArray) : (trimB s).size ≤ s.size := by
  show (Lib.trimPrefix s.data.toList [45]).toArray.size ≤ _
  unfold Lib.trimPrefix
  split
  · simp
  · simp
theorem trim_cases (l : List UInt8) : (∃ r, l = 45 :: r ∧ Lib.trimPrefix l [45] = r) ∨ (l = [] ∧ Lib.trimPrefix l [45] = []) ∨ (∃ c r, l = c :: r ∧ c ≠ 45 ∧ Lib.trimPrefix l [45] = l) := by
  cases l with
  | nil => exact .inr (.inl ⟨rfl, by simp [Lib.trimPrefix]⟩)
  | cons c r =>
    by_cases hc : c = 45
    · subst hc
      exact .inl ⟨r, rfl, by simp [Lib.trimPrefix, Lib.hasPrefix]⟩
    · refine .inr (.inr ⟨c, r, rfl, hc, ?_⟩)
      have : Lib.hasPrefix (c :: r) [45] = false := by
        rw [Lib.hasPrefix]
        simp [List.isPrefixOf]
        exact fun h => hc h.symm
      rw [Lib.trimPrefix, this]; rfl
theorem form_empty {s : ByteArray} (h : (trimB s).size = 0) : intForm s.data.toList = false := by
  have e : Lib.trimPrefix s.data.toList [45] = [] := by
    have : (Lib.trimPrefix s.data.toList [45]).toArray.size = 0 := h
    exact List.eq_nil_of_length_eq_zero (by simpa using this)
  rcases trim_cases s.data.toList with ⟨r, h1, h2⟩ | ⟨h1, _⟩ | ⟨c, r, h1, _, h2⟩
  · rw [h1, intForm, if_pos rfl, show r = [] from h2.symm.trans e]; rfl
  · rw [h1]; rfl
  · rw [h2, h1] at e; cases e
theorem trim_list (s : ByteArray) : (trimB s).data.toList = Lib.trimPrefix s.data.toList [45] := by simp [trimB]
theorem head_of {t : ByteArray} (h : 0 < t.size) : t.data.toList = t[0] :: t.data.toList.drop 1 := by
  have := drop_cons t 0 h
  rwa [List.drop_zero] at this
/-- A leading nought. -/
theorem form_lead {s : ByteArray} (h : 0 < (trimB s).size) (h48 : (trimB s)[0].toNat = 48) (hs : s ≠ ⟨#[48]⟩) : intForm s.data.toList = false := by
  have hh := head_of h
  rw [trim_list] at hh
  rcases trim_cases s.data.toList with ⟨r, h1, h2⟩ | ⟨h1, h2⟩ | ⟨c, r, h1, h3, h2⟩
  · rw [h2] at hh
    rw [h1, intForm, if_pos rfl, hh, decL]
    simp [h48]
  · rw [h2] at hh; cases hh
  · rw [h2, h1] at hh
    injection hh with e1 e2
    rw [h1, intForm, if_neg h3, decL, e1]
    have hr : r ≠ [] := by
      intro hr
      apply hs
      apply ByteArray.ext; apply Array.toList_inj.1
      rw [h1, hr, e1]
      show [_] = [_]
      congr 1
      exact UInt8.toNat_inj.1 (by rw [h48]; rfl)
    simp [h48, hr]
theorem form_other {s : ByteArray} (h : 0 < (trimB s).size) (h48 : (trimB s)[0].toNat ≠ 48) : intForm s.data.toList = (trimB s).data.toList.all digC := by
  have hh := head_of h
  have hl := trim_list s
  rw [hl] at hh
  rcases trim_cases s.data.toList with ⟨r, h1, h2⟩ | ⟨h1, h2⟩ | ⟨c, r, h1, h3, h2⟩
  · rw [h2] at hh hl
    rw [hl, h1, intForm, if_pos rfl, hh, decL, decide_eq_false h48]; rfl
  · rw [h2] at hh; cases hh
  · rw [h2, h1] at hh hl
    injection hh with e1 e2
    rw [hl, h1, intForm, if_neg h3, decL, e1, decide_eq_false h48]; rfl
theorem form_nought : intForm (⟨#[48]⟩ : ByteArray).data.toList = (trimB ⟨#[48]⟩).data.toList.all digC := by decide +kernel

/-- strconv.Atoi at a decimal form. -/
theorem atoi_ok (s : ByteArray) (w : World) (hf : intForm s.data.toList = true) (hr : inInt (intVal s.data.toList)) (hs : s.size ≤ 1000000) :
    Calls Tryz.prog 87 #[.string s] w fun e w' => e = .returned (.tuple #[.int .i64 (intVal s.data.toList), .nilIface]) ∧ Below w.heap.size w w' := by
  refine (Tryz.strconv_Atoi_ok s (by omega) (intVal s.data.toList) (by rw [atoi_form hf, if_pos hr]) w).mono ?_
  rintro e w' ⟨he, hw⟩
  refine ⟨he, ?_⟩
  rcases hw with rfl | ⟨t, rfl⟩
  · exact Below.refl _ _
  · exact Lib.bytesWorld_below w _ t
theorem atoi_range (s : ByteArray) (w : World) (hf : intForm s.data.toList = true) (hr : ¬ inInt (intVal s.data.toList)) (hs : s.size ≤ 1000000) (hE : ErrsOk w) :
    Calls Tryz.prog 87 #[.string s] w fun e w' => (∃ (u : Int) (t : TypeId) (p : Value), e = .returned (.tuple #[.int .i64 u, .iface t p])) ∧ Below w.heap.size w w' := by
  obtain ⟨_, ⟨t', p', h2⟩, _, _⟩ := hE
  refine (Tryz.strconv_Atoi_range_var s (by omega) (by rw [atoi_form hf, if_neg hr]) t' p' w h2).mono ?_
  rintro e w' ⟨N, he, _, _, hb⟩
  exact ⟨⟨_, _, _, he⟩, hb⟩

set_option maxHeartbeats 4000000 in
set_option maxRecDepth 100000 in
theorem readint_any (s : ByteArray) (w : World) (hs : s.size ≤ 1000000) (hE : ErrsOk w) :
    Calls Tryz.prog 50 #[.string s] w fun e w' => e = .returned (.tuple #[.int .i64 (readIntP s).1, .int .i64 (readIntP s).2]) ∧ Below w.heap.size w w' := by
  have htr : Calls Tryz.prog 86 #[.string s, .string ⟨#[45]⟩] w fun e w' => e = .returned (.string (trimB s)) ∧ w = w' := (Tryz.strings_TrimPrefix s ⟨#[45]⟩ w).mono fun _ _ h => ⟨h.1, h.2.symm⟩
  have htz := trim_size s
  have hcs : (((s.toList == [48]) = false) ∧ (trimB s).size = 0 ∧ intForm s.data.toList = false) ∨ (((s.toList == [48]) = false) ∧ (∃ h : 0 < (trimB s).size, (trimB s)[0].toNat = 48) ∧ intForm s.data.toList = false) ∨ ((((s.toList == [48]) = false) ∧ ∃ h : 0 < (trimB s).size, (trimB s)[0].toNat ≠ 48) ∧ intForm s.data.toList = (trimB s).data.toList.all digC) ∨ (s = ⟨#[48]⟩ ∧ intForm s.data.toList = (trimB s).data.toList.all digC) := by
    by_cases h0 : s = ⟨#[48]⟩
    · exact .inr (.inr (.inr ⟨h0, by rw [h0]; exact form_nought⟩))
    · have hne : (s.toList == [48]) = false := by
        have := str_ne h0
        rwa [show (⟨#[48]⟩ : ByteArray).toList = [48] by rw [Lib.toList_data]] at this
      by_cases h1 : (trimB s).size = 0
      · exact .inl ⟨hne, h1, form_empty h1⟩
      · have hp : 0 < (trimB s).size := by omega
        by_cases h2 : (trimB s)[0].toNat = 48
        · exact .inr (.inl ⟨hne, ⟨hp, h2⟩, form_lead hp h2 h0⟩)
        · exact .inr (.inr (.inl ⟨⟨hne, hp, h2⟩, form_other hp h2⟩))
  generalize trimB s = t at *
  have HC := Lib.hid hcs
  have HT := Lib.hid htr
  clear htr hcs
  have hse := hs
  rcases HC.out with ⟨hq, h0, hf⟩ | ⟨hq, ⟨hp, h48⟩, hf⟩ | hrest
  · have hG := Lib.hid (readInt_form hf)
    have hte : t.toList.isEmpty = true := by
      rw [Lib.toList_data, List.isEmpty_iff]
      exact List.eq_nil_of_length_eq_zero (by simpa using h0)
    clear hf h0
    go_enter Tryz.func50, Tryz.ntmps50
    go_wp2_with fail
    refine (Calls.mono HT.out ?_)
    rintro e w1 ⟨rfl, rfl⟩
    go_wp2_with fail
    go_ret2
    exact ⟨ret_pp hG.out, Below.refl _ _⟩
  · have hG := Lib.hid (readInt_form hf)
    have hb : ((t[0].toNat : Int) == 48) = true := by rw [h48]; rfl
    have hte : t.toList.isEmpty = false := by
      rw [Lib.toList_data, head_of hp]; rfl
    clear hf h48
    go_enter Tryz.func50, Tryz.ntmps50
    go_wp2_with fail
    refine (Calls.mono HT.out ?_)
    rintro e w1 ⟨rfl, rfl⟩
    go_wp2_with fail
    go_ret2
    exact ⟨ret_pp hG.out, Below.refl _ _⟩
  · have hr2 : ((((s.toList == [48]) = false) ∧ t.toList.isEmpty = false ∧ ∃ h : 0 < t.size, ((t[0].toNat : Int) == 48) = false) ∨ s = ⟨#[48]⟩) ∧ Hid (intForm s.data.toList = t.data.toList.all digC) := by
      rcases hrest with ⟨⟨hq, hp, h48⟩, hf⟩ | ⟨h, hf⟩
      · exact ⟨.inl ⟨hq, by rw [Lib.toList_data, head_of hp]; rfl, hp, by rw [beq_eq_false_iff_ne]; omega⟩, Lib.hid hf⟩
      · exact ⟨.inr h, Lib.hid hf⟩
    obtain ⟨hr3, HF⟩ := hr2
    clear hrest HC
    have hbad : Hid (t.data.toList.all digC = false → readIntP s = (0, 4)) := Lib.hid (fun h => readInt_form (HF.out.trans h))
    have hgood : Hid (t.data.toList.all digC = true → inInt (intVal s.data.toList) → readIntP s = (intVal s.data.toList, 0)) := Lib.hid (fun h hr => readInt_ok (HF.out.trans h) hr)
    have hover : Hid (t.data.toList.all digC = true → ¬ inInt (intVal s.data.toList) → readIntP s = (0, 27)) := Lib.hid (fun h hr => readInt_range (HF.out.trans h) hr)
    have hA := Lib.hid (fun wq hd hr => atoi_ok s wq (HF.out.trans hd) hr hs)
    have hB := Lib.hid (fun wq hd hr hE => atoi_range s wq (HF.out.trans hd) hr hs hE)
    clear HF
    generalize readIntP s = Z at *
    rcases hr3 with ⟨hq, hte, hp, hb⟩ | rfl
    all_goals
      generalize intVal _ = V at *
      go_enter Tryz.func50, Tryz.ntmps50
      go_wp2_with fail
      refine (Calls.mono HT.out ?_)
      rintro e w1 ⟨rfl, rfl⟩
      go_wp2_with fail
      go_loopw [6] (fun _ wr => ∃ pos : Nat, wr = w.iter t pos ∧ Hid ((t.data.toList.take pos).all digC = true) ∧ pos ≤ t.size) (fun _ wr => t.size - wr.iterPos w.heap.size)
      case atStart => exact ⟨0, rfl, Lib.hid (by simp), by omega⟩
      case round =>
        obtain ⟨pos, rfl, HD, hpos⟩ := hrel
        by_cases hlt : pos < t.size
        · obtain ⟨c, hc⟩ : ∃ c, t[pos].toNat = c := ⟨_, rfl⟩
          have HC := Lib.hid hc
          by_cases ha : c < 128
          · have hnx : ∀ ty, (Instr.next (.pointer (some ⟨w.heap.size, 0, none⟩)) true ty).run Tryz.prog (w.iter t pos) = .ok (.tuple #[.bool true, .int .i64 pos, .int .i32 c]) (w.iter t (pos + 1)) := fun ty => by
              have := run_next_ascii (P := Tryz.prog) w t pos ty hlt (by omega)
              rwa [hc] at this
            have hcs : c < 48 ∨ 57 < c ∨ (48 ≤ c ∧ c ≤ 57) := by omega
            clear hc
            rcases hcs with h1 | h1 | ⟨h1, h2⟩
            · have hG := Lib.hid (hbad.out (dig_bad hlt (by rw [digC, HC.out]; simp; omega)))
              go_wp2_with fail
              go_ret2
              exact ⟨ret_pp hG.out, (Below.refl _ _).alloc (Nat.le_refl _) _⟩
            · have hG := Lib.hid (hbad.out (dig_bad hlt (by rw [digC, HC.out]; simp; omega)))
              go_wp2_with fail
              go_ret2
              exact ⟨ret_pp hG.out, (Below.refl _ _).alloc (Nat.le_refl _) _⟩
            · have HD1 : Hid ((t.data.toList.take (pos + 1)).all digC = true) := Lib.hid (dig_all hlt HD.out (by rw [digC, HC.out]; simp; omega))
              go_wp2_with fail
              go_roundw
              case rel => exact ⟨pos + 1, rfl, HD1, by omega⟩
              case measure => simp; omega
          · have hdec := (decode_high t pos hlt (by omega)).1
            have hG := Lib.hid (hbad.out (dig_bad hlt (by rw [digC, HC.out]; simp; omega)))
            obtain ⟨r, hr⟩ : ∃ r, (Utf8.decode t pos).1 = r := ⟨_, rfl⟩
            obtain ⟨q, hq⟩ : ∃ q, pos + (Utf8.decode t pos).2 = q := ⟨_, rfl⟩
            have hnx : ∀ ty, (Instr.next (.pointer (some ⟨w.heap.size, 0, none⟩)) true ty).run Tryz.prog (w.iter t pos) = .ok (.tuple #[.bool true, .int .i64 pos, .int .i32 r]) (w.iter t q) := fun ty => by
              have := run_next_any (P := Tryz.prog) w t pos ty hlt
              rwa [hr, hq] at this
            rw [hr] at hdec
            clear hc hr hq
            go_wp2_with fail
            go_ret2
            exact ⟨ret_pp hG.out, (Below.refl _ _).alloc (Nat.le_refl _) _⟩
        · have hnx : ∀ ty, (Instr.next (.pointer (some ⟨w.heap.size, 0, none⟩)) true ty).run Tryz.prog (w.iter t pos) = .ok (.tuple #[.bool false]) (w.iter t pos) := fun ty => run_next_end w t pos ty hlt
          have HT1 : Hid (t.data.toList.all digC = true) := Lib.hid (by have h := HD.out; rwa [List.take_of_length_le (by simp; have : t.size = t.data.size := rfl; omega)] at h)
          have HBw : Hid (Below w.heap.size w (w.iter t pos)) := Lib.hid ((Below.refl _ _).alloc (Nat.le_refl _) _)
          by_cases hin : inInt V
          · have hG := Lib.hid (hgood.out HT1.out hin)
            have HA := Lib.hid (fun wq => hA.out wq HT1.out hin)
            clear hin
            go_wp2_with fail
            refine (Calls.mono (HA.out _) ?_)
            rintro e w2 ⟨rfl, hb2⟩
            go_wp2_with fail
            go_ret2
            exact ⟨ret_pp hG.out, bthen HBw.out hb2⟩
          · have hG := Lib.hid (hover.out HT1.out hin)
            have HA := Lib.hid (fun wq => hB.out wq HT1.out hin)
            clear hin
            go_wp2_with fail
            refine (Calls.mono (HA.out _ (hE.below HBw.out)) ?_)
            rintro e w2 ⟨⟨u, ti, p, rfl⟩, hb2⟩
            go_wp2_with fail
            go_ret2
            exact ⟨ret_pp hG.out, bthen HBw.out hb2⟩
end Go.Proofs.YtpmikpijonccjaaGreatDoor

/- Windows: clock.Check and its reference; clock.Add and identityref22.Limited. -/
namespace Go.Proofs.YtpmikpijonccjaaGreatDoor
open Go.RowKit

def skewT (k : Int) : Int := min (max k 0) 600
def windowE (f u t k : Int) : Int := if u < f then 2 else if limT t + skewT k < f then 14 else if u ≤ limT t - skewT k then 13 else 0
theorem limT_in (t : Int) : 0 ≤ limT t ∧ limT t ≤ 1099511627776 := by unfold limT; omega
theorem skewT_in (t : Int) : 0 ≤ skewT t ∧ skewT t ≤ 600 := by unfold skewT; omega
theorem rlimit_any (t : Int) (w : World) :
    Calls Tryz.prog 91 #[.int .i64 t] w fun e w' => e = .returned (.int .i64 (limT t)) ∧ w = w' := by
  go_enter Tryz.func91, Tryz.ntmps91
  go_wp2_with fail
  all_goals
    go_ret
    exact ⟨ret_int (by unfold limT; omega), rfl⟩
theorem limited22_any (t : Int) (w : World) :
    Calls Tryz.prog 62 #[.int .i64 t] w fun e w' => e = .returned (.int .i64 (limT t)) ∧ w = w' := by
  go_enter Tryz.func62, Tryz.ntmps62
  go_wp2_with fail
  all_goals
    go_ret
    exact ⟨ret_int (by unfold limT; omega), rfl⟩
theorem cadd_any (t d : Int) (w : World) :
    Calls Tryz.prog 58 #[.int .i64 t, .int .i64 d] w fun e w' => e = .returned (.int .i64 (limT (limT t + limT d))) ∧ w = w' := by
  obtain ⟨a, HA⟩ : ∃ m, Hid (limT t = m) := ⟨_, Lib.hid rfl⟩
  obtain ⟨b, HB⟩ : ∃ m, Hid (limT d = m) := ⟨_, Lib.hid rfl⟩
  have ha := limT_in t
  have hb := limT_in d
  rw [HA.out] at ha
  rw [HB.out] at hb
  obtain ⟨ha1, ha2⟩ := ha
  obtain ⟨hb1, hb2⟩ := hb
  rw [HA.out, HB.out]
  go_enter Tryz.func58, Tryz.ntmps58
  go_wp2_with fail
  refine (climited_any t _).mono ?_
  rintro e wsame ⟨rfl, rfl⟩
  rw [HA.out]
  go_wp2_with fail
  refine (climited_any d _).mono ?_
  rintro e wsame ⟨rfl, rfl⟩
  rw [HB.out]
  go_wp2_with fail
  refine (climited_any (a + b) _).mono ?_
  rintro e wsame ⟨rfl, rfl⟩
  go_wp2_with fail
  go_ret
  exact ⟨rfl, rfl⟩
theorem skew_cases (k : Int) : (k < 0 ∧ skewT k = 0) ∨ (0 ≤ k ∧ k ≤ 600 ∧ skewT k = k) ∨ (600 < k ∧ skewT k = 600) := by unfold skewT; omega
set_option maxHeartbeats 2000000 in
theorem ccheck_any (f u t k : Int) (w : World) :
    Calls Tryz.prog 55 #[.agg #[.int .i64 f, .int .i64 u], .int .i64 t, .int .i64 k] w fun e w' => e = .returned (.int .i64 (windowE f u t k)) ∧ Below w.heap.size w w' := by
  have HE : Hid (∀ m s, limT t = m → skewT k = s → windowE f u t k = if u < f then 2 else if m + s < f then 14 else if u ≤ m - s then 13 else 0) := Lib.hid (fun m s h1 h2 => by rw [windowE, h1, h2])
  obtain ⟨m, HM⟩ : ∃ m, Hid (limT t = m) := ⟨_, Lib.hid rfl⟩
  have hm := limT_in t
  rw [HM.out] at hm
  obtain ⟨hm1, hm2⟩ := hm
  obtain ⟨V, HV⟩ : ∃ V, Hid (windowE f u t k = V) := ⟨_, Lib.hid rfl⟩
  rw [HV.out] at HE
  rw [HV.out]
  have HB : Hid (Below w.heap.size w (w.alloc (.cells #[.int .i64 f, .int .i64 u] 76))) := Lib.hid ((Below.refl _ _).alloc (Nat.le_refl _) _)
  rcases skew_cases k with ⟨hk, hs⟩ | ⟨hk, hk2, hs⟩ | ⟨hk, hs⟩
  all_goals
    have HG := Lib.hid (HE.out m _ HM.out hs)
    clear hs HE
    go_enter Tryz.func55, Tryz.ntmps55
    go_wp2_with fail
    refine (climited_any t _).mono ?_
    rintro e wsame ⟨rfl, rfl⟩
    rw [HM.out]
    go_wp2_with fail
    all_goals
      go_ret
      exact ⟨ret_int (by rw [HG.out]; first | (rw [if_pos (by omega)]) | (rw [if_neg (by omega), if_pos (by omega)]) | (rw [if_neg (by omega), if_neg (by omega), if_pos (by omega)]) | (rw [if_neg (by omega), if_neg (by omega), if_neg (by omega)])), HB.out⟩
theorem quiet_lim {t m : Int} (h : limT t = m) {w : World} {n : Nat} : Calls Tryz.prog 91 #[.int .i64 t] (w.drewN n) fun e w'' => e = .returned (.int .i64 m) ∧ ∃ m, w'' = w.drewN m := by
  subst h; exact (rlimit_any t (w.drewN n)).mono fun _ _ ⟨he, hm⟩ => ⟨he, n, hm.symm⟩
theorem quiet_lim2 {t m : Int} (h : limT t = m) {w : World} {a n : Nat} : Calls Tryz.prog 91 #[.int .i64 t] (w.drewN (a + n)) fun e w'' => e = .returned (.int .i64 m) ∧ ∃ m, w'' = w.drewN (a + m) := by
  subst h; exact (rlimit_any t (w.drewN (a + n))).mono fun _ _ ⟨he, hm⟩ => ⟨he, n, hm.symm⟩
theorem below_drewN' {B : Nat} {a w : World} (h : Below B a w) (n : Nat) : Below B a (w.drewN n) := ⟨h.os, h.tape, h.output, h.size, h.block⟩
theorem skew_max (k : Int) : max 0 (min k 600) = skewT k := by unfold skewT; omega
set_option maxHeartbeats 2000000 in
theorem rccheck_any (f u t k : Int) (w : World) :
    Calls Tryz.prog 56 #[.agg #[.int .i64 f, .int .i64 u], .int .i64 t, .int .i64 k] w fun e w' => e = .returned (.int .i64 (windowE f u t k)) ∧ Below w.heap.size w w' := by
  have hm := limT_in t
  have HG : Hid (∀ m, limT t = m → windowE f u t k = if u < f then 2 else if m + max 0 (min k 600) < f then 14 else if u ≤ m - max 0 (min k 600) then 13 else 0) := Lib.hid (fun m h1 => by rw [windowE, h1, skew_max])
  obtain ⟨m, HM⟩ : ∃ m, Hid (limT t = m) := ⟨_, Lib.hid rfl⟩
  rw [HM.out] at hm
  obtain ⟨hm1, hm2⟩ := hm
  have HG2 := Lib.hid (HG.out m HM.out)
  clear HG
  obtain ⟨V, HV⟩ : ∃ V, Hid (windowE f u t k = V) := ⟨_, Lib.hid rfl⟩
  rw [HV.out] at HG2
  rw [HV.out]
  have HB : Hid (Below w.heap.size w (w.alloc (.cells #[.int .i64 f, .int .i64 u] 76))) := Lib.hid ((Below.refl _ _).alloc (Nat.le_refl _) _)
  by_cases h1 : u < f
  · have hG : Hid (V = 2) := Lib.hid (by rw [HG2.out, if_pos h1])
    go_enter Tryz.func56, Tryz.ntmps56
    go_wp2_with fail
    go_ret
    exact ⟨ret_int hG.out.symm, HB.out⟩
  · by_cases h2 : m + max 0 (min k 600) < f
    · have hG : Hid (V = 14) := Lib.hid (by rw [HG2.out, if_neg h1, if_pos h2])
      go_enter Tryz.func56, Tryz.ntmps56
      go_wp2_with fail
      go_quiet ((go_at_call 91; exact quiet_lim HM.out))
      go_wp2_with fail
      go_ret
      exact ⟨ret_int hG.out.symm, below_drewN' HB.out _⟩
    · by_cases h3 : u ≤ m - max 0 (min k 600)
      · have hG : Hid (V = 13) := Lib.hid (by rw [HG2.out, if_neg h1, if_neg h2, if_pos h3])
        go_enter Tryz.func56, Tryz.ntmps56
        go_wp2_with fail
        go_quiet ((go_at_call 91; exact quiet_lim HM.out))
        go_wp2_with fail
        go_quiet ((go_at_call 91; first | exact quiet_lim2 HM.out | exact quiet_lim HM.out))
        go_wp2_with fail
        go_ret
        exact ⟨ret_int hG.out.symm, below_drewN' (below_drewN' HB.out _) _⟩
      · have hG : Hid (V = 0) := Lib.hid (by rw [HG2.out, if_neg h1, if_neg h2, if_neg h3])
        go_enter Tryz.func56, Tryz.ntmps56
        go_wp2_with fail
        go_quiet ((go_at_call 91; exact quiet_lim HM.out))
        go_wp2_with fail
        go_quiet ((go_at_call 91; first | exact quiet_lim2 HM.out | exact quiet_lim HM.out))
        go_wp2_with fail
        go_ret
        exact ⟨ret_int hG.out.symm, below_drewN' (below_drewN' HB.out _) _⟩
end Go.Proofs.YtpmikpijonccjaaGreatDoor

/- claims.Decode: what is read, step by step. -/
namespace Go.Proofs.YtpmikpijonccjaaGreatDoor
open Go.RowKit

/-- The claims with the first k strings. -/
def s1 (f : Nat → ByteArray) (k : Nat) : Cl := ⟨if 0 < k then unescS (f 0) else ⟨#[]⟩, if 1 < k then unescS (f 1) else ⟨#[]⟩, if 2 < k then unescS (f 2) else ⟨#[]⟩, if 3 < k then unescS (f 3) else ⟨#[]⟩, if 4 < k then unescS (f 4) else ⟨#[]⟩, if 5 < k then unescS (f 5) else ⟨#[]⟩, if 6 < k then unescS (f 6) else ⟨#[]⟩, if 7 < k then unescS (f 7) else ⟨#[]⟩, [], [], [], 0, 0, 0, 0, 0⟩
/-- .. and the first k lists. -/
def s2 (f : Nat → ByteArray) (k : Nat) : Cl := ⟨unescS (f 0), unescS (f 1), unescS (f 2), unescS (f 3), unescS (f 4), unescS (f 5), unescS (f 6), unescS (f 7), if 0 < k then splitS (f 8) else [], if 1 < k then splitS (f 9) else [], if 2 < k then splitS (f 10) else [], 0, 0, 0, 0, 0⟩
/-- .. and the first k numbers. -/
def s3 (f : Nat → ByteArray) (k : Nat) : Cl := ⟨unescS (f 0), unescS (f 1), unescS (f 2), unescS (f 3), unescS (f 4), unescS (f 5), unescS (f 6), unescS (f 7), splitS (f 8), splitS (f 9), splitS (f 10), if 0 < k then (readIntP (f 11)).1 else 0, if 1 < k then (readIntP (f 12)).1 else 0, if 2 < k then (readIntP (f 13)).1 else 0, if 3 < k then (readIntP (f 14)).1 else 0, if 4 < k then (readIntP (f 15)).1 else 0⟩
theorem s1_zero (f : Nat → ByteArray) : s1 f 0 = cl0 := rfl
theorem s1_all (f : Nat → ByteArray) : s1 f 8 = s2 f 0 := rfl
theorem s2_all (f : Nat → ByteArray) : s2 f 3 = s3 f 0 := rfl
theorem s3_all (f : Nat → ByteArray) : s3 f 5 = decC f := rfl
def setP (p : P3) (k : Nat) (A : Option Addr) (c : Nat) : P3 := if k = 0 then ⟨A, c, p.a2, p.c2, p.a3, p.c3⟩ else if k = 1 then ⟨p.a1, p.c1, A, c, p.a3, p.c3⟩ else ⟨p.a1, p.c1, p.a2, p.c2, A, c⟩
theorem ClBox.put {w : World} {b : Nat} {c c' : Cl} {p p' : P3} (h : ClBox w b c p) (k : Nat) (v : Value) (he : (clA c p).setIfInBounds k v = clA c' p') : ClBox (w.setCell ⟨b, k, none⟩ v) b c' p' := by
  have := heap_setCell_same w b k _ _ v h
  rw [ClBox, this]
  exact congrArg (fun x => some (Obj.cells x 24 (0, 0))) he
theorem ClBox.s1 {w : World} {b : Nat} {f : Nat → ByteArray} {p : P3} {k : Nat} (h : ClBox w b (s1 f k) p) (hk : k < 8) : ClBox (w.setCell ⟨b, k, none⟩ (.string (unescS (f k)))) b (s1 f (k + 1)) p := by
  rcases k with _|_|_|_|_|_|_|_|k
  all_goals first | omega | exact h.put _ _ rfl
theorem ClBox.s2 {w : World} {b : Nat} {f : Nat → ByteArray} {p : P3} {k : Nat} {A : Option Addr} {c : Nat} (h : ClBox w b (s2 f k) p) (hk : k < 3) : ClBox (w.setCell ⟨b, 8 + k, none⟩ (.slice A (splitS (f (8 + k))).length c)) b (s2 f (k + 1)) (setP p k A c) := by
  rcases k with _|_|_|k
  all_goals first | omega | exact h.put _ _ rfl
theorem ClBox.s3 {w : World} {b : Nat} {f : Nat → ByteArray} {p : P3} {k : Nat} (h : ClBox w b (s3 f k) p) (hk : k < 5) : ClBox (w.setCell ⟨b, 11 + k, none⟩ (.int .i64 (readIntP (f (11 + k))).1)) b (s3 f (k + 1)) p := by
  rcases k with _|_|_|_|_|k
  all_goals first | omega | exact h.put _ _ rfl
/-- The lists that were read lie in memory. -/
structure Ls (w : World) (c : Cl) (p : P3) : Prop where
  at_ : ClAt w c p
  l1 : c.aud.length ≤ p.c1
  l2 : c.sco.length ≤ p.c2
  l3 : c.act.length ≤ p.c3
theorem Ls.zero (w : World) (f : Nat → ByteArray) : Ls w (s2 f 0) p30 := ⟨⟨Strs.nil_ _ _, Strs.nil_ _ _, Strs.nil_ _ _⟩, Nat.le_refl _, Nat.le_refl _, Nat.le_refl _⟩
theorem Ls.below {w w' : World} {c : Cl} {p : P3} (h : Ls w c p) (hb : Below w.heap.size w w') : Ls w' c p := ⟨h.at_.below hb, h.l1, h.l2, h.l3⟩
theorem Ls.next {w : World} {f : Nat → ByteArray} {p : P3} {k : Nat} {A : Option Addr} {c : Nat} (h : Ls w (Go.Proofs.YtpmikpijonccjaaGreatDoor.s2 f k) p) (hk : k < 3) (hA : Strs w A (splitS (f (8 + k)))) (hc : (splitS (f (8 + k))).length ≤ c) : Ls w (Go.Proofs.YtpmikpijonccjaaGreatDoor.s2 f (k + 1)) (setP p k A c) := by
  obtain ⟨⟨h1, h2, h3⟩, g1, g2, g3⟩ := h
  rcases k with _|_|_|k
  · exact ⟨⟨hA, h2, h3⟩, hc, g2, g3⟩
  · exact ⟨⟨h1, hA, h3⟩, g1, hc, g3⟩
  · exact ⟨⟨h1, h2, hA⟩, g1, g2, hc⟩
  · omega
/-- A store into a block does not touch strings elsewhere. -/
theorem Strs.setCell {w : World} {A : Option Addr} {l : List ByteArray} (h : Strs w A l) {b i : Nat} {v : Value} (hb : ∀ p, A = some p → l ≠ [] → p.block ≠ b) : Strs (w.setCell ⟨b, i, none⟩ v) A l := by
  intro j hj
  obtain ⟨g, o, e, hc⟩ := h j hj
  refine ⟨g, o, e, ?_⟩
  rw [World.cell?_setCell_other]
  · exact hc
  · intro he
    injection he with h1
    exact hb _ e (fun hn => by subst hn; simp at hj) h1.symm
set_option maxHeartbeats 1000000 in
theorem value_any (i : Nat) (hi : i < 16) (ls : List ByteArray) (hl : ls.length = 17) (hz : ∀ s ∈ ls, s.size ≤ 1000000) (b cap : Nat) (A : Option Addr) (w : World) (hc : w.cell? ⟨b, 0, none⟩ = some (.slice A ls.length cap)) (hS : Strs w A ls) (hk : KeysOk w) :
    Calls Tryz.prog 46 #[.int .i64 i, .pointer (some ⟨b, 0, none⟩)] w fun e w' => e = .returned (.string (valP (keysS[i]'hi) (ls[i]'(by omega)))) ∧ Below w.heap.size w w' := by
  obtain ⟨g, o, rfl, hc2⟩ := hS i (by omega)
  have hc1 := hk.cell i hi
  have hkz := keys_len _ (List.getElem_mem (l := keysS) hi)
  have hlz := hz _ (List.getElem_mem (l := ls) (show i < ls.length by omega))
  obtain ⟨x, HX⟩ : ∃ x, Hid (keysS[i]'hi = x) := ⟨_, Lib.hid rfl⟩
  obtain ⟨y, HY⟩ : ∃ y, Hid (ls[i]'(by omega) = y) := ⟨_, Lib.hid rfl⟩
  rw [HX.out] at hc1 hkz
  rw [HY.out] at hc2 hlz
  rw [HX.out, HY.out]
  have f1 : (0 : Int) ≤ (i : Int) := by omega
  have f2 : (i : Int) < 16 := by omega
  have f3 : (i : Int) < (ls.length : Int) := by omega
  have HCP : Hid (∀ W, Calls Tryz.prog 47 #[.string y, .string (x ++ ⟨#[61]⟩)] W fun e w' => e = .returned (.tuple #[.string (valP x y), .bool (Lib.hasPrefix y.data.toList (x ++ ⟨#[61]⟩ : ByteArray).data.toList)]) ∧ w' = W) := Lib.hid (fun W => by
    have h := Tryz.strings_CutPrefix y (x ++ ⟨#[61]⟩) W
    unfold valP bsOf keyE
    exact h)
  obtain ⟨H, HH⟩ : ∃ H, Hid (Lib.hasPrefix y.data.toList (x ++ ⟨#[61]⟩ : ByteArray).data.toList = H) := ⟨_, Lib.hid rfl⟩
  rw [HH.out] at HCP
  clear HY hl hS hk hz
  go_enter Tryz.func46, Tryz.ntmps46
  go_wp2_with fail
  go_quiet ((go_at_call 47; exact Calls.quiet_of_same (HCP.out _)))
  go_wp2_with fail
  go_ret
  exact ⟨rfl, below_drewN' (Below.refl _ _) _⟩
end Go.Proofs.YtpmikpijonccjaaGreatDoor

/- claims.Decode. -/
namespace Go.Proofs.YtpmikpijonccjaaGreatDoor
open Go.RowKit

theorem cuts_sz (s : ByteArray) (c : UInt8) : ∀ t ∈ cutsS s c, t.size ≤ s.size := by
  intro t ht
  rw [cutsS, cutsL, List.mem_map] at ht
  obtain ⟨x, hx, rfl⟩ := ht
  have := (joinL_ge c (cutL c s.data.toList)).2 x hx
  rw [join_cut] at this
  rw [bs_len]
  simpa using this
theorem valsP_size (s : ByteArray) (i : Nat) : (valsP s i).size ≤ s.size := by
  refine Nat.le_trans (valP_size _ _) ?_
  rw [List.getD_eq_getElem?_getD]
  cases h : (cutsS s 10)[i]? with
  | none => show (0 : Nat) ≤ _; omega
  | some t => exact cuts_sz s 10 t (List.mem_of_getElem? h)
theorem unescS_size (t : ByteArray) : (unescS t).size ≤ t.size := by
  rw [unescS]
  cases h : unescO t with
  | none => show (0 : Nat) ≤ _; omega
  | some s => exact unescO_size h
theorem splitS_len (t : ByteArray) : (splitS t).length ≤ t.size + 1 ∧ ∀ x ∈ splitS t, x.size ≤ t.size + 1 := by
  rw [splitS]
  cases h : splitO t with
  | none => exact ⟨by show (0 : Nat) ≤ _; omega, fun x hx => by simp at hx⟩
  | some l => exact split_len h
theorem readIntP_in (t : ByteArray) : inInt (readIntP t).1 := by
  unfold readIntP
  split
  · split
    · assumption
    · unfold inInt; omega
  · unfold inInt; omega
theorem decC_in {f : Nat → ByteArray} {p : P3} (hf : ∀ i, (f i).size ≤ 5000) (h1 : (splitS (f 8)).length ≤ p.c1) (h2 : (splitS (f 9)).length ≤ p.c2) (h3 : (splitS (f 10)).length ≤ p.c3) : ClIn (decC f) p := by
  have u : ∀ i, (unescS (f i)).size ≤ 9223372036854775807 := fun i => by have := unescS_size (f i); have := hf i; omega
  have l : ∀ i, (splitS (f i)).length ≤ 9223372036854775807 := fun i => by have := (splitS_len (f i)).1; have := hf i; omega
  have z : ∀ i, ∀ s ∈ splitS (f i), s.size ≤ 9223372036854775807 := fun i s hs => by have := (splitS_len (f i)).2 s hs; have := hf i; omega
  exact ⟨u 0, u 1, u 2, u 3, u 4, u 5, u 6, u 7, h1, h2, h3, l 8, l 9, l 10, z 8, z 9, z 10, readIntP_in _, readIntP_in _, readIntP_in _, readIntP_in _, readIntP_in _⟩
/-- What Decode returns. -/
def RetDec25 (s : ByteArray) (e : Ending) (w' : World) : Prop :=
  (∃ c p, e = .returned (.tuple #[clV c p, .int .i64 0]) ∧ IsDec s c ∧ ClAt w' c p ∧ ClIn c p) ∨ (e = .returned (.tuple #[clV cl0 p30, .int .i64 (decE s)]) ∧ ∀ c, ¬ IsDec s c)
/-- The variables of Decode. -/
structure DecSt (w wr : World) (lb sb cb cap : Nat) (ls : List ByteArray) (c : Cl) (p : P3) : Prop where
  cl : ClBox wr cb c p
  res : ClBox wr w.heap.size cl0 p30
  cell : wr.cell? ⟨lb, 0, none⟩ = some (.slice (some ⟨sb, 0, none⟩) ls.length cap)
  strs : Strs wr (some ⟨sb, 0, none⟩) ls
  below : Below w.heap.size w wr
  l0 : w.heap.size < sb
  l1 : sb < lb
  l2 : lb < cb
  lt : cb < wr.heap.size
theorem DecSt.keep {w wr w' : World} {lb sb cb cap : Nat} {ls : List ByteArray} {c : Cl} {p : P3} (h : DecSt w wr lb sb cb cap ls c p) (hb : Below wr.heap.size wr w') : DecSt w w' lb sb cb cap ls c p := by
  have := hb.size
  have := h.lt
  have := h.l2
  exact ⟨h.cl.below hb, h.res.below hb, (hb.cell (p := ⟨lb, 0, none⟩) (by show lb < _; omega)).trans h.cell, h.strs.below hb, bthen h.below hb, h.l0, h.l1, h.l2, by omega⟩
theorem DecSt.put {w wr : World} {lb sb cb cap : Nat} {ls : List ByteArray} {c c' : Cl} {p p' : P3} {i : Nat} {v : Value} (h : DecSt w wr lb sb cb cap ls c p) (hc : ClBox (wr.setCell ⟨cb, i, none⟩ v) cb c' p') : DecSt w (wr.setCell ⟨cb, i, none⟩ v) lb sb cb cap ls c' p' := by
  have := h.lt
  have := h.l2
  have := h.l1
  have := h.l0
  refine ⟨hc, (heap_setCell_other wr ⟨cb, i, none⟩ _ v (by show w.heap.size ≠ cb; omega)).trans h.res, ?_, h.strs.setCell (fun q hq _ => by injection hq with hq; subst hq; show sb ≠ cb; omega), h.below.setCell (by show w.heap.size ≤ cb; omega) _, h.l0, h.l1, h.l2, by simpa using h.lt⟩
  rw [World.cell?_setCell_other]
  · exact h.cell
  · intro he
    injection he with h1
    omega
/-- The lists lie behind the variables. -/
structure Far (cb : Nat) (p : P3) : Prop where
  f1 : ∀ q, p.a1 = some q → cb < q.block
  f2 : ∀ q, p.a2 = some q → cb < q.block
  f3 : ∀ q, p.a3 = some q → cb < q.block
theorem Far.zero (cb : Nat) : Far cb p30 := ⟨(fun q h => by cases h), (fun q h => by cases h), (fun q h => by cases h)⟩
theorem Far.next {cb : Nat} {p : P3} {k : Nat} {A : Option Addr} {c : Nat} (h : Far cb p) (hk : k < 3) (hA : ∀ q, A = some q → cb < q.block) : Far cb (setP p k A c) := by
  obtain ⟨h1, h2, h3⟩ := h
  rcases k with _|_|_|k
  · exact ⟨hA, h2, h3⟩
  · exact ⟨h1, hA, h3⟩
  · exact ⟨h1, h2, hA⟩
  · omega
theorem ClAt.put {w : World} {c : Cl} {p : P3} {cb i : Nat} {v : Value} (h : ClAt w c p) (hf : Far cb p) : ClAt (w.setCell ⟨cb, i, none⟩ v) c p :=
  ⟨h.aud.setCell (fun q hq _ => by have := hf.f1 q hq; omega), h.sco.setCell (fun q hq _ => by have := hf.f2 q hq; omega), h.act.setCell (fun q hq _ => by have := hf.f3 q hq; omega)⟩
theorem Strs.setRow {w : World} {A : Option Addr} {l : List ByteArray} (h : Strs w A l) {b : Nat} {cs : Array Value} (hb : ∀ q, A = some q → q.block ≠ b) : Strs (w.setRow b cs) A l := by
  intro j hj
  obtain ⟨g, o, e, hc⟩ := h j hj
  refine ⟨g, o, e, ?_⟩
  rw [← hc]
  exact World.cell?_of_block (setRow_other w b g cs (by have := hb _ e; exact this))
theorem ClAt.setRow {w : World} {c : Cl} {p : P3} {b : Nat} {cs : Array Value} (h : ClAt w c p) (h1 : ∀ q, p.a1 = some q → q.block ≠ b) (h2 : ∀ q, p.a2 = some q → q.block ≠ b) (h3 : ∀ q, p.a3 = some q → q.block ≠ b) : ClAt (w.setRow b cs) c p := ⟨h.aud.setRow h1, h.sco.setRow h2, h.act.setRow h3⟩
theorem Ls.put {w : World} {c : Cl} {p : P3} {cb i : Nat} {v : Value} (h : Ls w c p) (hf : Far cb p) : Ls (w.setCell ⟨cb, i, none⟩ v) c p := ⟨h.at_.put hf, h.l1, h.l2, h.l3⟩
theorem value_at (j : Int) (i : Nat) (hj : (i : Int) = j) (hi : i < 16) (s : ByteArray) (hl : (cutsS s 10).length = 17) (hs : s.size ≤ 4096) (b sb cap : Nat) (w : World) (hc : w.cell? ⟨b, 0, none⟩ = some (.slice (some ⟨sb, 0, none⟩) (cutsS s 10).length cap)) (hS : Strs w (some ⟨sb, 0, none⟩) (cutsS s 10)) (hk : KeysOk w) :
    Calls Tryz.prog 46 #[.int .i64 j, .pointer (some ⟨b, 0, none⟩)] w fun e w' => e = .returned (.string (valsP s i)) ∧ Below w.heap.size w w' := by
  subst hj
  have h := value_any i hi (cutsS s 10) hl (fun t ht => by have := cuts_sz s 10 t ht; omega) b cap _ w hc hS hk
  rw [valsP, List.getD_eq_getElem?_getD, List.getD_eq_getElem?_getD, List.getElem?_eq_getElem (show i < keysS.length from hi), List.getElem?_eq_getElem (show i < (cutsS s 10).length by omega), Option.getD_some, Option.getD_some]
  exact h
set_option maxHeartbeats 16000000 in
set_option maxRecDepth 100000 in
theorem decode_any (s : ByteArray) (w : World) (hs : s.size ≤ 1000000000) (hk : KeysOk w) (hp : PowOk w) (he : ErrsOk w) :
    Calls Tryz.prog 18 #[.string s] w fun e w' => RetDec25 s e w' ∧ Below w.heap.size w w' := by
  have hmf : ∀ (fn : Fn) (first cap : Array Value) (w : World), (Instr.makeFunc fn first cap).run Tryz.prog w = .ok (.func fn first cap) w := fun _ _ _ _ => rfl
  have B1 : Hid (Below w.heap.size w (w.alloc (clO cl0 p30))) := Lib.hid ((Below.refl _ _).alloc (Nat.le_refl _) _)
  have X1 : Hid (ClBox (w.alloc (clO cl0 p30)) w.heap.size cl0 p30) := Lib.hid (ClBox.new w cl0 p30)
  have HK := Lib.hid hk
  have HP := Lib.hid hp
  have HE := Lib.hid he
  clear hk hp he
  by_cases h1 : 4096 < s.size
  · have HN : Hid (decE s = 3 ∧ ∀ c, ¬ IsDec s c) := Lib.hid ⟨by rw [decE, if_pos h1], fun c hc => by have := hc.2.2; omega⟩
    go_enter Tryz.func18, Tryz.ntmps18
    go_wp2_with (first | (refine alloc_cl rfl _ rfl rfl ?_) | (refine build_cl rfl _ rfl rfl ?_) | (refine store_cl rfl _ rfl _ _ rfl w.heap.size rfl cl0 p30 rfl cl0 p30 X1 ?_) | fail)
    refine bodyPost_ret (v := .tuple #[clV cl0 p30, .int .i64 3]) (res_cl Tryz.results18 _ _ w.heap.size cl0 p30 _ rfl (X1.out.set) rfl) rfl ⟨.inr ⟨by rw [HN.out.1], HN.out.2⟩, ?_⟩
    exact below_setRow B1.out (Nat.le_refl _) _
  · have HS4 : Hid (s.size ≤ 4096) := Lib.hid (by omega)
    go_enter Tryz.func18, Tryz.ntmps18
    go_wp2_with (first | (refine alloc_cl rfl _ rfl rfl ?_) | fail)
    refine (ssplit_any s 10 _ (by omega)).mono ?_
    rintro e w2 ⟨xs, cap, rfl, hcap, hown, hdone, hb2⟩
    have hsz : (w.alloc (clO cl0 p30)).heap.size = w.heap.size + 1 := by simp
    rw [hsz] at hown
    have S2 : Hid (Strs w2 (some ⟨w.heap.size + 1, 0, none⟩) (cutsS s 10)) := Lib.hid (Strs.own hown rfl (fun j hj => hdone j hj hj))
    have B2 := Lib.hid (bthen B1.out hb2)
    have X2 := Lib.hid (X1.out.below hb2)
    have hz2 : w.heap.size + 1 < w2.heap.size := (hown.lt _ rfl).2
    rw [hsz]
    clear hsz hown hdone hb2 B1 X1 hcap
    have HIP := Lib.hid (fun c (h : IsDec s c) => isDec_p h)
    obtain ⟨n, HNN⟩ : ∃ n, Hid ((cutsS s 10).length = n) := ⟨_, Lib.hid rfl⟩
    by_cases h17 : n = 17
    · have H17 : Hid ((cutsS s 10).length = 17) := Lib.hid (HNN.out.trans h17)
      have t0 : ((n : Int) != 17) = false := by rw [h17]; rfl
      rw [HNN.out]
      have hz3 : w2.heap.size + 1 ≤ w2.heap.size + 1 := Nat.le_refl _
      have D3 : Hid (DecSt w ((w2.alloc (.cells #[.slice (some ⟨w.heap.size + 1, 0, none⟩) n cap] 22)).alloc (clO cl0 p30)) w2.heap.size (w.heap.size + 1) (w2.heap.size + 1) cap (cutsS s 10) cl0 p30) := Lib.hid ⟨
        by have h := ClBox.new (w2.alloc (.cells #[.slice (some ⟨w.heap.size + 1, 0, none⟩) n cap] 22)) cl0 p30; simpa using h,
        X2.out.below (((Below.refl _ _).alloc (Nat.le_refl _) _).alloc (by simp) _),
        by rw [HNN.out]; exact cell_of_row _ w2.heap.size 0 _ 22 (0, 0) ((heap_alloc_old _ _ (by simp)).trans (heap_alloc_new w2 _)),
        S2.out.below (((Below.refl _ _).alloc (Nat.le_refl _) _).alloc (by simp) _),
        (B2.out.alloc B2.out.size _).alloc (by have := B2.out.size; simp; omega) _, by omega, hz2, by omega, by simp⟩
      clear h17 B2 X2 S2 hz3
      go_wp2_with (first | (refine alloc_cl rfl _ rfl rfl ?_) | fail)
      refine (texts_any (w2.heap.size + 1) _).mono ?_
      rintro e wa ⟨rfl, hba⟩
      have DA := Lib.hid (D3.out.keep hba)
      clear hba D3
      go_wp2_with fail
      go_loopw [27] (fun i wr => ∃ k : Nat, k ≤ 8 ∧ i = .int .i64 k ∧ Hid (DecSt w wr w2.heap.size (w.heap.size + 1) (w2.heap.size + 1) cap (cutsS s 10) (s1 (valsP s) k) p30)) (fun i _ => 8 - (intOf i).toNat)
      case atStart => exact ⟨0, Nat.zero_le _, rfl, DA⟩
      case round =>
        obtain ⟨k, hk, rfl, DR⟩ := hrel
        clear DA
        by_cases hlt : k < 8
        · have hidx := fun W => idx_texts (w2.heap.size + 1) k hlt W
          have hk16 : k < 16 := by omega
          have hv := value_at (k : Int) k (by omega) (by omega) s H17.out HS4.out w2.heap.size (w.heap.size + 1) cap wr DR.out.cell DR.out.strs (HK.out.below DR.out.below)
          have HVZ : Hid ((valsP s k).size ≤ 5000) := Lib.hid (by have := valsP_size s k; have := HS4.out; omega)
          go_wp2_with fail
          refine hv.mono ?_
          rintro e w4 ⟨rfl, hb4⟩
          have D4 := Lib.hid (DR.out.keep hb4)
          clear hb4 hv
          have HPUT : Hid (∀ w5 v, ClBox w5 (w2.heap.size + 1) (s1 (valsP s) k) p30 → v = unescS (valsP s k) → ClBox (w5.setCell ⟨(w2.heap.size + 1), k, none⟩ (.string v)) (w2.heap.size + 1) (s1 (valsP s) (k + 1)) p30) := Lib.hid (fun w5 v h e => by subst e; exact h.s1 hlt)
          obtain ⟨x, HX⟩ : ∃ x, Hid (valsP s k = x) := ⟨_, Lib.hid rfl⟩
          rw [HX.out] at HVZ HPUT
          rw [HX.out]
          have hxz := HVZ.out
          go_wp2_with fail
          refine (unesc_any x _ (by omega)).mono ?_
          rintro e w5 ⟨rfl, hb5⟩
          have D5 := Lib.hid (D4.out.keep hb5)
          clear hb5
          obtain ⟨y, HY⟩ : ∃ y, Hid (unescS x = y) := ⟨_, Lib.hid rfl⟩
          obtain ⟨ye, HYE⟩ : ∃ y, Hid (unescE x = y) := ⟨_, Lib.hid rfl⟩
          rw [HY.out, HYE.out]
          have hcell := D5.out.cl.str k hlt
          have hfr : w5.frozen? ⟨(w2.heap.size + 1), k, none⟩ = false := frozen_of_row w5 (w2.heap.size + 1) (k) _ _ D5.out.cl
          go_wp2_with fail
          have D6 := Lib.hid (D5.out.put (HPUT.out w5 y D5.out.cl HY.out.symm))
          go_roundw
          case rel => exact ⟨k + 1, hlt, by go_num, D6⟩
          case measure => simp [intOf]; omega
        · obtain rfl : k = 8 := by omega
          have DL : Hid (DecSt w wr w2.heap.size (w.heap.size + 1) (w2.heap.size + 1) cap (cutsS s 10) (s2 (valsP s) 0) p30) := Lib.hid (by have h := DR.out; rwa [s1_all] at h)
          clear DR hlt
          go_wp2_with fail
          refine (lists_any (w2.heap.size + 1) _).mono ?_
          rintro e wa ⟨rfl, hba⟩
          have DA := Lib.hid (DL.out.keep hba)
          clear hba DL
          go_wp2_with fail
          go_loopw [42] (fun i wr => ∃ (k : Nat) (p : P3), k ≤ 3 ∧ i = .int .i64 k ∧ Hid (DecSt w wr w2.heap.size (w.heap.size + 1) (w2.heap.size + 1) cap (cutsS s 10) (s2 (valsP s) k) p) ∧ Hid (Ls wr (s2 (valsP s) k) p) ∧ Hid (Far (w2.heap.size + 1) p)) (fun i _ => 3 - (intOf i).toNat)
          case atStart => exact ⟨0, p30, Nat.zero_le _, rfl, DA, Lib.hid (Ls.zero _ _), Lib.hid (Far.zero _)⟩
          case round =>
            obtain ⟨k, p, hk, rfl, DR, LR, FR⟩ := hrel
            clear DA
            by_cases hlt : k < 3
            · have hidx := fun W => idx_lists (w2.heap.size + 1) k hlt W
              have hk16 : k < 16 := by omega
              have hv := value_at (8 + (k : Int)) (8 + k) (by omega) (by omega) s H17.out HS4.out w2.heap.size (w.heap.size + 1) cap wr DR.out.cell DR.out.strs (HK.out.below DR.out.below)
              have HVZ : Hid ((valsP s (8 + k)).size ≤ 5000) := Lib.hid (by have := valsP_size s (8 + k); have := HS4.out; omega)
              go_wp2_with fail
              refine hv.mono ?_
              rintro e w4 ⟨rfl, hb4⟩
              have D4 := Lib.hid (DR.out.keep hb4)
              have L4 := Lib.hid (LR.out.below hb4)
              clear hb4 hv
              have HPUT : Hid (∀ w5 A c n, ClBox w5 (w2.heap.size + 1) (s2 (valsP s) k) p → n = (splitS (valsP s (8 + k))).length → ClBox (w5.setCell ⟨(w2.heap.size + 1), 8 + k, none⟩ (.slice A n c)) (w2.heap.size + 1) (s2 (valsP s) (k + 1)) (setP p k A c)) := Lib.hid (fun w5 A c n h e => by subst e; exact h.s2 hlt)
              have HLN : Hid (∀ W A c, Ls W (s2 (valsP s) k) p → Strs W A (splitS (valsP s (8 + k))) → (splitS (valsP s (8 + k))).length ≤ c → Ls W (s2 (valsP s) (k + 1)) (setP p k A c)) := Lib.hid (fun W A c h h1 h2 => h.next hlt h1 h2)
              obtain ⟨x, HX⟩ : ∃ x, Hid (valsP s (8 + k) = x) := ⟨_, Lib.hid rfl⟩
              rw [HX.out] at HVZ HPUT HLN
              rw [HX.out]
              have hxz := HVZ.out
              go_wp2_with fail
              refine (csplit_any x _ (by omega)).mono ?_
              rintro e w5 ⟨⟨A5, c5, rfl, hs5, hf5, hl5⟩, hb5⟩
              have D5 := Lib.hid (D4.out.keep hb5)
              have L5 := Lib.hid (L4.out.below hb5)
              have S5 := Lib.hid hs5
              have HL5 := Lib.hid hl5
              have F5 : Hid (Far (w2.heap.size + 1) (setP p k A5 c5)) := Lib.hid (FR.out.next hlt (fun q hq => Nat.lt_of_lt_of_le D4.out.lt (hf5 q hq)))
              clear hb5 hs5 hl5
              have HFA : Hid (∀ q, A5 = some q → q.block ≠ w2.heap.size + 1) := Lib.hid (fun q hq => by have := hf5 q hq; have := D4.out.lt; omega)
              clear hf5
              obtain ⟨y, HY⟩ : ∃ y, Hid (splitS x = y) := ⟨_, Lib.hid rfl⟩
              obtain ⟨ye, HYE⟩ : ∃ y, Hid (splitErr x = y) := ⟨_, Lib.hid rfl⟩
              rw [HY.out] at HPUT HLN S5 HL5
              rw [HY.out, HYE.out]
              have hcell := D5.out.cl.lst k hlt
              have hfr : w5.frozen? ⟨(w2.heap.size + 1), 8 + k, none⟩ = false := frozen_of_row w5 (w2.heap.size + 1) (8 + k) _ _ D5.out.cl
              go_wp2_with fail
              have D6 := Lib.hid (D5.out.put (HPUT.out w5 A5 c5 y.length D5.out.cl rfl))
              have L6 := Lib.hid (HLN.out _ A5 c5 (L5.out.put (i := 8 + k) (v := .slice A5 y.length c5) FR.out) (S5.out.setCell (fun q hq _ => HFA.out q hq)) HL5.out)
              go_roundw
              case rel => exact ⟨k + 1, setP p k A5 c5, hlt, by go_num, D6, L6, F5⟩
              case measure => simp [intOf]; omega
            · obtain rfl : k = 3 := by omega
              have DL : Hid (DecSt w wr w2.heap.size (w.heap.size + 1) (w2.heap.size + 1) cap (cutsS s 10) (s3 (valsP s) 0) p) := Lib.hid (by have h := DR.out; rwa [s2_all] at h)
              have LL : Hid (Ls wr (s3 (valsP s) 0) p) := Lib.hid (by have h := LR.out; rwa [s2_all] at h)
              clear DR LR hlt
              go_wp2_with fail
              refine (numbers_any (w2.heap.size + 1) _).mono ?_
              rintro e wa ⟨rfl, hba⟩
              have DA := Lib.hid (DL.out.keep hba)
              have LA := Lib.hid (LL.out.below hba)
              clear hba DL LL
              go_wp2_with fail
              go_loopw [58] (fun i wr => ∃ k : Nat, k ≤ 5 ∧ i = .int .i64 k ∧ Hid (DecSt w wr w2.heap.size (w.heap.size + 1) (w2.heap.size + 1) cap (cutsS s 10) (s3 (valsP s) k) p) ∧ Hid (Ls wr (s3 (valsP s) 0) p)) (fun i _ => 5 - (intOf i).toNat)
              case atStart => exact ⟨0, Nat.zero_le _, rfl, DA, LA⟩
              case round =>
                obtain ⟨k, hk, rfl, DR, LR⟩ := hrel
                clear DA
                by_cases hlt : k < 5
                · have hidx := fun W => idx_numbers (w2.heap.size + 1) k hlt W
                  have hk16 : k < 16 := by omega
                  have hv := value_at (11 + (k : Int)) (11 + k) (by omega) (by omega) s H17.out HS4.out w2.heap.size (w.heap.size + 1) cap wr DR.out.cell DR.out.strs (HK.out.below DR.out.below)
                  have HVZ : Hid ((valsP s (11 + k)).size ≤ 5000) := Lib.hid (by have := valsP_size s (11 + k); have := HS4.out; omega)
                  go_wp2_with fail
                  refine hv.mono ?_
                  rintro e w4 ⟨rfl, hb4⟩
                  have D4 := Lib.hid (DR.out.keep hb4)
                  have L4 := Lib.hid (LR.out.below hb4)
                  clear hb4 hv
                  have HPUT : Hid (∀ w5 v, ClBox w5 (w2.heap.size + 1) (s3 (valsP s) k) p → v = (readIntP (valsP s (11 + k))).1 → ClBox (w5.setCell ⟨(w2.heap.size + 1), 11 + k, none⟩ (.int .i64 v)) (w2.heap.size + 1) (s3 (valsP s) (k + 1)) p) := Lib.hid (fun w5 v h e => by subst e; exact h.s3 hlt)
                  obtain ⟨x, HX⟩ : ∃ x, Hid (valsP s (11 + k) = x) := ⟨_, Lib.hid rfl⟩
                  rw [HX.out] at HVZ HPUT
                  rw [HX.out]
                  have hxz := HVZ.out
                  go_wp2_with fail
                  refine (readint_any x _ (by omega) (HE.out.below D4.out.below)).mono ?_
                  rintro e w5 ⟨rfl, hb5⟩
                  have D5 := Lib.hid (D4.out.keep hb5)
                  have L5 := Lib.hid (L4.out.below hb5)
                  clear hb5
                  obtain ⟨y, HY⟩ : ∃ y, Hid ((readIntP x).1 = y) := ⟨_, Lib.hid rfl⟩
                  obtain ⟨ye, HYE⟩ : ∃ y, Hid ((readIntP x).2 = y) := ⟨_, Lib.hid rfl⟩
                  rw [HY.out, HYE.out]
                  have hcell := D5.out.cl.num k hlt
                  have hfr : w5.frozen? ⟨(w2.heap.size + 1), 11 + k, none⟩ = false := frozen_of_row w5 (w2.heap.size + 1) (11 + k) _ _ D5.out.cl
                  go_wp2_with fail
                  have D6 := Lib.hid (D5.out.put (HPUT.out w5 y D5.out.cl HY.out.symm))
                  have L6 := Lib.hid (L5.out.put (i := 11 + k) (v := .int .i64 y) FR.out)
                  go_roundw
                  case rel => exact ⟨k + 1, hlt, by go_num, D6, L6⟩
                  case measure => simp [intOf]; omega
                · obtain rfl : k = 5 := by omega
                  have DE : Hid (DecSt w wr w2.heap.size (w.heap.size + 1) (w2.heap.size + 1) cap (cutsS s 10) (decC (valsP s)) p) := Lib.hid (by have h := DR.out; rwa [s3_all] at h)
                  have LE : Hid (ClAt wr (decC (valsP s)) p ∧ ClIn (decC (valsP s)) p) := Lib.hid ⟨⟨LR.out.at_.aud, LR.out.at_.sco, LR.out.at_.act⟩, decC_in (fun i => by have := valsP_size s i; have := HS4.out; omega) LR.out.l1 LR.out.l2 LR.out.l3⟩
                  clear DR LR hlt LA
                  obtain ⟨c, HC⟩ : ∃ c, Hid (decC (valsP s) = c) := ⟨_, Lib.hid rfl⟩
                  have HDC : Hid (∀ d, IsDec s d → d = c) := Lib.hid (fun d hd => (HIP.out d hd).2.symm.trans HC.out)
                  have HD4 : Hid (decE s = 4) := Lib.hid (by rw [decE, if_neg h1])
                  rw [HC.out] at DE LE
                  have X6 := Lib.hid DE.out.cl
                  clear HC HIP
                  go_wp2_with (first | (refine load_cl rfl _ rfl _ rfl (w2.heap.size + 1) rfl c p X6 ?_) | fail)
                  refine (encode_any c p _ LE.out.2 LE.out.1 (HK.out.below DE.out.below) (HP.out.below DE.out.below)).mono ?_
                  rintro e w7 ⟨rfl, hb7⟩
                  have D7 := Lib.hid (DE.out.keep hb7)
                  have L7 := Lib.hid (And.intro (LE.out.1.below hb7) LE.out.2)
                  clear hb7 DE LE X6
                  have R7 := Lib.hid D7.out.res
                  have X7 := Lib.hid D7.out.cl
                  have HIS : Hid (encE c = 0 → encV c = s → IsDec s c) := Lib.hid isDec_of
                  have HIE : Hid (IsDec s c → encE c = 0 ∧ encV c = s) := Lib.hid isDec_enc
                  obtain ⟨E, HEE⟩ : ∃ E, Hid (encE c = E) := ⟨_, Lib.hid rfl⟩
                  obtain ⟨V, HVV⟩ : ∃ V, Hid (encV c = V) := ⟨_, Lib.hid rfl⟩
                  rw [HEE.out, HVV.out] at HIS HIE
                  rw [HEE.out, HVV.out]
                  by_cases h0 : E = 0
                  · by_cases hv : V = s
                    · have HI := Lib.hid (HIS.out h0 hv)
                      have t1 : (E != 0) = false := by rw [h0]; rfl
                      have t2 : (V.toList != s.toList) = false := by rw [hv]; simp
                      have t3 : (V.toList == s.toList) = true := by rw [hv]; simp
                      clear h0 hv
                      go_wp2_with (first | (refine load_cl rfl _ rfl _ rfl (w2.heap.size + 1) rfl c p X7 ?_) | (refine store_cl rfl _ rfl _ _ rfl w.heap.size rfl c p rfl cl0 p30 R7 ?_) | fail)
                      refine bodyPost_ret (v := .tuple #[clV c p, .int .i64 0]) (res_cl Tryz.results18 _ _ w.heap.size c p _ rfl (R7.out.set) rfl) rfl ⟨.inl ⟨c, p, rfl, HI.out, ?_, L7.out.2⟩, ?_⟩
                      · exact L7.out.1.setRow (fun q hq => by have := FR.out.f1 q hq; have := D7.out.l2; have := D7.out.l1; have := D7.out.l0; omega) (fun q hq => by have := FR.out.f2 q hq; have := D7.out.l2; have := D7.out.l1; have := D7.out.l0; omega) (fun q hq => by have := FR.out.f3 q hq; have := D7.out.l2; have := D7.out.l1; have := D7.out.l0; omega)
                      · exact below_setRow D7.out.below (Nat.le_refl _) _
                    · have HN : Hid (∀ d, ¬ IsDec s d) := Lib.hid (fun d hd => by have e := HDC.out d hd; subst e; exact hv (HIE.out hd).2)
                      have t1 : (E != 0) = false := by rw [h0]; rfl
                      have t3 := str_ne hv
                      have t2 : (V.toList != s.toList) = true := by rw [bne, t3]; rfl
                      clear h0 hv
                      go_wp2_with (first | (refine build_cl rfl _ rfl rfl ?_) | (refine store_cl rfl _ rfl _ _ rfl w.heap.size rfl cl0 p30 rfl cl0 p30 R7 ?_) | fail)
                      refine bodyPost_ret (v := .tuple #[clV cl0 p30, .int .i64 4]) (res_cl Tryz.results18 _ _ w.heap.size cl0 p30 _ rfl (R7.out.set) rfl) rfl ⟨.inr ⟨by rw [HD4.out], HN.out⟩, ?_⟩
                      exact below_setRow D7.out.below (Nat.le_refl _) _
                  · have HN : Hid (∀ d, ¬ IsDec s d) := Lib.hid (fun d hd => by have e := HDC.out d hd; subst e; exact h0 (HIE.out hd).1)
                    have t1 : (E != 0) = true := by rw [bne_iff_ne]; exact h0
                    clear h0
                    go_wp2_with (first | (refine build_cl rfl _ rfl rfl ?_) | (refine store_cl rfl _ rfl _ _ rfl w.heap.size rfl cl0 p30 rfl cl0 p30 R7 ?_) | fail)
                    refine bodyPost_ret (v := .tuple #[clV cl0 p30, .int .i64 4]) (res_cl Tryz.results18 _ _ w.heap.size cl0 p30 _ rfl (R7.out.set) rfl) rfl ⟨.inr ⟨by rw [HD4.out], HN.out⟩, ?_⟩
                    exact below_setRow D7.out.below (Nat.le_refl _) _
    · have t0 : ((n : Int) != 17) = true := by rw [bne_iff_ne]; omega
      have HN : Hid (decE s = 4 ∧ ∀ c, ¬ IsDec s c) := Lib.hid ⟨by rw [decE, if_neg h1], fun c hc => h17 (HNN.out.symm.trans (HIP.out c hc).1)⟩
      have X3 : Hid (ClBox (w2.alloc (.cells #[.slice (some ⟨w.heap.size + 1, 0, none⟩) n cap] 22)) w.heap.size cl0 p30) := Lib.hid (X2.out.below ((Below.refl _ _).alloc (Nat.le_refl _) _))
      have B3 : Hid (Below w.heap.size w (w2.alloc (.cells #[.slice (some ⟨w.heap.size + 1, 0, none⟩) n cap] 22))) := Lib.hid (B2.out.alloc B2.out.size _)
      rw [HNN.out]
      clear h17 HIP B2 X2 S2
      go_wp2_with (first | (refine build_cl rfl _ rfl rfl ?_) | (refine store_cl rfl _ rfl _ _ rfl w.heap.size rfl cl0 p30 rfl cl0 p30 X3 ?_) | fail)
      refine bodyPost_ret (v := .tuple #[clV cl0 p30, .int .i64 4]) (res_cl Tryz.results18 _ _ w.heap.size cl0 p30 _ rfl (X3.out.set) rfl) rfl ⟨.inr ⟨by rw [HN.out.1], HN.out.2⟩, ?_⟩
      exact below_setRow B3.out (Nat.le_refl _) _
end Go.Proofs.YtpmikpijonccjaaGreatDoor

/- The order of strings: '<=' is the opposite of the other way's '<'. -/
namespace Go.Proofs.YtpmikpijonccjaaGreatDoor
open Go.RowKit

theorem less_total : ∀ a b : List UInt8, (Op.bytesLess b a || b == a) = !(Op.bytesLess a b) := by
  intro a
  induction a with
  | nil =>
    intro b
    cases b with
    | nil => rfl
    | cons y b => simp [Op.bytesLess]
  | cons x a ih =>
    intro b
    cases b with
    | nil => simp [Op.bytesLess]
    | cons y b =>
      have h := ih b
      simp only [Op.bytesLess]
      by_cases h1 : x < y
      · have h2 : ¬ y < x := by rw [UInt8.lt_iff_toNat_lt] at *; omega
        have h3 : ¬ y = x := fun e => by subst e; exact h2 h1
        simp [h1, h2, h3]
      · by_cases h2 : y < x
        · have h3 : ¬ x = y := fun e => by subst e; exact h1 h2
          simp [h1, h2, h3]
        · have h3 : x = y := by
            rw [UInt8.lt_iff_toNat_lt] at h1 h2
            exact UInt8.toNat_inj.1 (by omega)
          subst h3
          simpa [h1] using h
theorem leq_ord (p s : ByteArray) : (Op.bytesLess s.toList p.toList || s.toList == p.toList) = !(ordB p s) := less_total p.toList s.toList
end Go.Proofs.YtpmikpijonccjaaGreatDoor

/- Plain: Allow, Narrow, Act and Equal of claims. -/
namespace Go.Proofs.YtpmikpijonccjaaGreatDoor
open Go.RowKit

/-- Equal claims. -/
def eqB (a b : Cl) : Bool := decide (a.kind = b.kind) && decide (a.issuer = b.issuer) && decide (a.subject = b.subject) && decide (a.client = b.client) && decide (a.tenant = b.tenant) && decide (a.id = b.id) && decide (a.session = b.session) && decide (a.nonce = b.nonce) && decide (a.aud = b.aud) && decide (a.sco = b.sco) && decide (a.act = b.act) && decide (a.issued = b.issued) && decide (a.nb = b.nb) && decide (a.exp = b.exp) && decide (a.auth = b.auth) && decide (a.level = b.level)
theorem eqB_iff (a b : Cl) : eqB a b = true ↔ a = b := by
  constructor
  · intro h
    simp only [eqB, Bool.and_eq_true, decide_eq_true_eq] at h
    obtain ⟨⟨⟨⟨⟨⟨⟨⟨⟨⟨⟨⟨⟨⟨⟨h0, h1⟩, h2⟩, h3⟩, h4⟩, h5⟩, h6⟩, h7⟩, h8⟩, h9⟩, h10⟩, h11⟩, h12⟩, h13⟩, h14⟩, h15⟩ := h
    cases a; cases b
    simp only at h0 h1 h2 h3 h4 h5 h6 h7 h8 h9 h10 h11 h12 h13 h14 h15
    subst h0; subst h1; subst h2; subst h3; subst h4; subst h5; subst h6; subst h7; subst h8; subst h9; subst h10; subst h11; subst h12; subst h13; subst h14; subst h15
    rfl
  · rintro rfl
    simp [eqB]
theorem eqB_self (a : Cl) : eqB a a = true := (eqB_iff a a).2 rfl
/-- What a receiver expects. -/
structure Ex where
  kind : ByteArray
  issuer : ByteArray
  aud : ByteArray
  tenant : ByteArray
  now : Int
  skew : Int
def allowE (c : Cl) (x : Ex) : Int :=
  if c.kind = x.kind then (if c.issuer = x.issuer then (if c.tenant = x.tenant then (if memB c.aud x.aud = true then windowE c.nb c.exp x.now x.skew else 15) else 32) else 16) else 2
theorem allow_ok {c : Cl} {x : Ex} (h : allowE c x = 0) : c.kind = x.kind ∧ c.issuer = x.issuer ∧ c.tenant = x.tenant ∧ memB c.aud x.aud = true ∧ windowE c.nb c.exp x.now x.skew = 0 := by
  rw [allowE] at h
  split at h
  · split at h
    · split at h
      · split at h
        · exact ⟨by assumption, by assumption, by assumption, by assumption, h⟩
        · cases h
      · cases h
    · cases h
  · cases h
theorem window_ok {f u t k : Int} (h : windowE f u t k = 0) : f ≤ u ∧ f ≤ limT t + skewT k ∧ limT t - skewT k < u := by
  rw [windowE] at h
  split at h
  · cases h
  · split at h
    · cases h
    · split at h
      · cases h
      · omega
/-- The elements of a that are in b. -/
def amongL (a b : List ByteArray) : List ByteArray := a.filter (memB b)
def allIn (a b : List ByteArray) : Bool := a.all (memB b)
def narE (c : Cl) (sc au : List ByteArray) (e : Int) : Int :=
  if checkE c = 0 then (if allIn sc c.sco = true then (if au.length ≠ 0 ∧ allIn au c.aud = true then (if c.exp < limT e ∨ limT e < c.issued ∨ limT e < c.nb then 27 else 0) else 15) else 19) else checkE c
def narC (c : Cl) (sc au : List ByteArray) (e : Int) : Cl := ⟨c.kind, c.issuer, c.subject, c.client, c.tenant, c.id, c.session, c.nonce, amongL c.aud au, amongL c.sco sc, c.act, c.issued, c.nb, limT e, c.auth, c.level⟩
def narV (c : Cl) (sc au : List ByteArray) (e : Int) : Cl := if narE c sc au e = 0 then narC c sc au e else cl0
def actEr (c : Cl) (a : ByteArray) : Int :=
  if checkE c = 0 then (if cleanS a = true then (if a = c.subject ∨ memB c.act a = true then 28 else (if 4 ≤ c.act.length then 3 else 0)) else 5) else checkE c
def actC (c : Cl) (a : ByteArray) : Cl := ⟨c.kind, c.issuer, c.subject, c.client, c.tenant, c.id, c.session, c.nonce, c.aud, c.sco, c.act ++ [a], c.issued, c.nb, c.exp, c.auth, c.level⟩
def actV (c : Cl) (a : ByteArray) : Cl := if actEr c a = 0 then actC c a else cl0
theorem nar_ok {c : Cl} {sc au : List ByteArray} {e : Int} (h : narE c sc au e = 0) : checkE c = 0 ∧ allIn sc c.sco = true ∧ au.length ≠ 0 ∧ allIn au c.aud = true ∧ limT e ≤ c.exp ∧ c.issued ≤ limT e ∧ c.nb ≤ limT e ∧ narV c sc au e = narC c sc au e := by
  have h0 := h
  rw [narE] at h
  split at h
  · split at h
    · split at h
      · rename_i hau
        split at h
        · cases h
        · exact ⟨by assumption, by assumption, hau.1, hau.2, by omega, by omega, by omega, by rw [narV, if_pos h0]⟩
      · cases h
    · cases h
  · contradiction
theorem act_ok {c : Cl} {a : ByteArray} (h : actEr c a = 0) : checkE c = 0 ∧ cleanS a = true ∧ c.act.length < 4 ∧ actV c a = actC c a := by
  have h0 := h
  rw [actEr] at h
  split at h
  · split at h
    · split at h
      · cases h
      · split at h
        · cases h
        · exact ⟨by assumption, by assumption, by omega, by rw [actV, if_pos h0]⟩
    · cases h
  · contradiction
theorem allIn_mem {a b : List ByteArray} (h : allIn a b = true) : ∀ x ∈ a, x ∈ b := fun x hx => (memB_iff b x).1 (List.all_eq_true.1 h x hx)
theorem allIn_of {a b : List ByteArray} (h : ∀ x ∈ a, x ∈ b) : allIn a b = true := List.all_eq_true.2 fun x hx => (memB_iff b x).2 (h x hx)
theorem among_mem {a b : List ByteArray} {x : ByteArray} (h : x ∈ amongL a b) : x ∈ a ∧ x ∈ b := by
  rw [amongL, List.mem_filter] at h
  exact ⟨h.1, (memB_iff b x).1 h.2⟩
theorem among_self (a : List ByteArray) : amongL a a = a := List.filter_eq_self.2 fun x hx => (memB_iff a x).2 hx
theorem among_idem (a b : List ByteArray) : amongL (amongL a b) (amongL a b) = amongL a b := among_self _
theorem among_len (a b : List ByteArray) : (amongL a b).length ≤ a.length := List.length_filter_le _ _
/-- The audience of a part. -/
theorem aud_sub (f : ByteArray → Bool) : ∀ (l pre pre2 : List ByteArray), (∀ x ∈ pre2, x ∈ pre) → audF pre l = 0 → audF pre2 (l.filter f) = 0
  | [], _, _, _, _ => rfl
  | x :: l, pre, pre2, hp, h => by
    rw [audF] at h
    split at h
    · rename_i hw
      split at h
      · cases h
      · rename_i hm
        by_cases hf : f x = true
        · rw [List.filter_cons_of_pos hf, audF, if_pos hw, if_neg]
          · refine aud_sub f l (pre ++ [x]) (pre2 ++ [x]) (fun y hy => ?_) h
            rcases List.mem_append.1 hy with hy | hy
            · exact List.mem_append.2 (.inl (hp y hy))
            · exact List.mem_append.2 (.inr hy)
          · intro hm2
            exact hm ((memB_iff _ _).2 (hp x ((memB_iff _ _).1 hm2)))
        · rw [List.filter_cons_of_neg hf]
          exact aud_sub f l (pre ++ [x]) pre2 (fun y hy => List.mem_append.2 (.inl (hp y hy))) h
    · cases h
theorem less_trans : ∀ a b c : List UInt8, Op.bytesLess a b = true → Op.bytesLess b c = true → Op.bytesLess a c = true := by
  intro a
  induction a with
  | nil =>
    intro b c h1 h2
    cases b with
    | nil => simp [Op.bytesLess] at h1
    | cons y b =>
      cases c with
      | nil => simp [Op.bytesLess] at h2
      | cons z c => simp [Op.bytesLess]
  | cons x a ih =>
    intro b c h1 h2
    cases b with
    | nil => simp [Op.bytesLess] at h1
    | cons y b =>
      cases c with
      | nil => simp [Op.bytesLess] at h2
      | cons z c =>
        have i := ih b c
        simp only [Op.bytesLess, Bool.or_eq_true, Bool.and_eq_true, decide_eq_true_eq, beq_iff_eq, UInt8.lt_iff_toNat_lt] at h1 h2 ⊢
        rcases h1 with h1 | ⟨rfl, h1⟩
        · rcases h2 with h2 | ⟨rfl, h2⟩
          · exact .inl (by omega)
          · exact .inl h1
        · rcases h2 with h2 | ⟨rfl, h2⟩
          · exact .inl h2
          · exact .inr ⟨rfl, i h1 h2⟩
theorem ord_trans {a b c : ByteArray} (h1 : ordB a b = true) (h2 : ordB b c = true) : ordB a c = true := less_trans _ _ _ h1 h2
theorem sco_sub (f : ByteArray → Bool) : ∀ (l : List ByteArray) (o o2 : Option ByteArray), (∀ p, o2 = some p → ∃ q, o = some q ∧ (p = q ∨ ordB p q = true)) → scoF o l = 0 → scoF o2 (l.filter f) = 0
  | [], _, o2, _, _ => by cases o2 <;> rfl
  | x :: l, o, o2, ho, h => by
    have hx : wordS x = true ∧ scoF (some x) l = 0 ∧ ∀ q, o = some q → ordB q x = true := by
      cases o with
      | none =>
        rw [scoF] at h
        split at h
        · exact ⟨by assumption, h, fun q hq => by cases hq⟩
        · cases h
      | some q =>
        rw [scoF] at h
        split at h
        · split at h
          · exact ⟨by assumption, h, fun q hq => by cases hq; assumption⟩
          · cases h
        · cases h
    obtain ⟨hw, hr, hq⟩ := hx
    have hp : ∀ p, o2 = some p → ordB p x = true := fun p e => by
      obtain ⟨q, e2, hh⟩ := ho p e
      rcases hh with rfl | hh
      · exact hq _ e2
      · exact ord_trans hh (hq _ e2)
    by_cases hf : f x = true
    · rw [List.filter_cons_of_pos hf]
      have ih := sco_sub f l (some x) (some x) (fun p e => ⟨x, rfl, .inl (by cases e; rfl)⟩) hr
      cases o2 with
      | none => rw [scoF, if_pos hw]; exact ih
      | some p => rw [scoF, if_pos hw, if_pos (hp p rfl)]; exact ih
    · rw [List.filter_cons_of_neg hf]
      exact sco_sub f l (some x) o2 (fun p e => ⟨x, rfl, .inr (hp p e)⟩) hr
theorem nar_check {c : Cl} {sc au : List ByteArray} {e : Int} (h : narE c sc au e = 0) : checkE (narC c sc au e) = 0 := by
  obtain ⟨h1, h2, h3, h4, h5, h6, h7, _⟩ := nar_ok h
  obtain ⟨n, a, s, t, tm, l1, l2⟩ := check_ok h1
  have hl := limT_in e
  have a2 : audE (amongL c.aud au) = 0 := by
    rw [audE] at a ⊢
    split at a
    · cases a
    · split at a
      · cases a
      · have := among_len c.aud au
        rw [if_neg, if_neg (by omega)]
        · exact aud_sub _ _ [] [] (fun _ h => h) a
        · intro h0
          obtain ⟨x, hx⟩ : ∃ x, x ∈ au := by
            cases au with
            | nil => exact absurd rfl h3
            | cons x r => exact ⟨x, by simp⟩
          have : x ∈ amongL c.aud au := by
            rw [amongL, List.mem_filter]
            exact ⟨allIn_mem h4 x hx, (memB_iff _ _).2 hx⟩
          rw [List.eq_nil_of_length_eq_zero h0] at this
          simp at this
  have s2 : scoE (amongL c.sco sc) = 0 := by
    rw [scoE] at s ⊢
    split at s
    · cases s
    · have := among_len c.sco sc
      rw [if_neg (by omega)]
      exact sco_sub _ _ none none (fun p e => by cases e) s
  have tm2 : timeB (narC c sc au e) = true := by
    rw [timeB] at tm ⊢
    simp only [Bool.and_eq_true, validT, decide_eq_true_iff] at tm ⊢
    obtain ⟨⟨⟨⟨t0, t1⟩, t2⟩, t3⟩, _⟩ := tm
    exact ⟨⟨⟨⟨t0, t1⟩, hl⟩, t3⟩, h6, h7⟩
  have li : listE (narC c sc au e) = 0 := by
    rw [listE]
    show (if audE (amongL c.aud au) = 0 then (if scoE (amongL c.sco sc) = 0 then actE c.act else scoE (amongL c.sco sc)) else audE (amongL c.aud au)) = 0
    rw [if_pos a2, if_pos s2, t]
  rw [checkE, if_pos (show nameB (narC c sc au e) = true from n), if_pos li, if_pos tm2]
  exact if_pos ⟨l1, l2⟩
theorem lim_self {t : Int} (h : 0 ≤ t ∧ t ≤ 1099511627776) : limT t = t := by unfold limT; omega
theorem lim_lim (t : Int) : limT (limT t) = limT t := lim_self (limT_in t)
/-- Narrow of the result to what it has. -/
theorem nar_again {c : Cl} {sc au : List ByteArray} {e : Int} (h : narE c sc au e = 0) : narE (narC c sc au e) (amongL c.sco sc) (amongL c.aud au) (limT e) = 0 ∧ narV (narC c sc au e) (amongL c.sco sc) (amongL c.aud au) (limT e) = narC c sc au e := by
  have hc := nar_check h
  obtain ⟨h1, h2, h3, h4, h5, h6, h7, _⟩ := nar_ok h
  have hl : (amongL c.aud au).length ≠ 0 := by
    obtain ⟨_, a, _⟩ := check_ok hc
    intro h0
    have a : audE (amongL c.aud au) = 0 := a
    rw [audE, if_pos h0] at a
    cases a
  have e1 : narE (narC c sc au e) (amongL c.sco sc) (amongL c.aud au) (limT e) = 0 := by
    rw [narE, if_pos hc]
    rw [if_pos (show allIn (amongL c.sco sc) (narC c sc au e).sco = true from allIn_of fun _ h => h)]
    rw [if_pos (show (amongL c.aud au).length ≠ 0 ∧ allIn (amongL c.aud au) (narC c sc au e).aud = true from ⟨hl, allIn_of fun _ h => h⟩)]
    rw [lim_lim]
    exact if_neg (by show ¬ (limT e < limT e ∨ limT e < c.issued ∨ limT e < c.nb); omega)
  refine ⟨e1, ?_⟩
  rw [narV, if_pos e1]
  show Cl.mk _ _ _ _ _ _ _ _ (amongL (amongL c.aud au) (amongL c.aud au)) (amongL (amongL c.sco sc) (amongL c.sco sc)) _ _ _ (limT (limT e)) _ _ = _
  rw [among_idem, among_idem, lim_lim]
  rfl
theorem act_check {c : Cl} {a : ByteArray} (h : actEr c a = 0) : checkE (actC c a) = 0 := by
  obtain ⟨h1, h2, h3, _⟩ := act_ok h
  obtain ⟨n, au, s, t, tm, l1, l2⟩ := check_ok h1
  have hs : ∀ l : List ByteArray, actF l = 0 → actF (l ++ [a]) = 0 := by
    intro l
    induction l with
    | nil => intro _; rw [List.nil_append, actF, if_pos h2]; rfl
    | cons x l ih =>
      intro h
      rw [actF] at h
      split at h
      · rename_i hx
        rw [List.cons_append, actF, if_pos hx]
        exact ih h
      · cases h
  have t2 : actE (c.act ++ [a]) = 0 := by
    rw [actE] at t ⊢
    rw [if_neg (by omega)] at t
    rw [if_neg (by simp; omega)]
    exact hs _ t
  have li : listE (actC c a) = 0 := by
    rw [listE]
    show (if audE c.aud = 0 then (if scoE c.sco = 0 then actE (c.act ++ [a]) else scoE c.sco) else audE c.aud) = 0
    rw [if_pos au, if_pos s, t2]
  rw [checkE, if_pos (show nameB (actC c a) = true from n), if_pos li, if_pos (show timeB (actC c a) = true from tm)]
  exact if_pos ⟨l1, l2⟩
end Go.Proofs.YtpmikpijonccjaaGreatDoor

/- claims.copied. -/
namespace Go.Proofs.YtpmikpijonccjaaGreatDoor
open Go.RowKit

/-- A slice that the call owns and that holds strings. -/
def OwnS (w : World) (B : Nat) (A : Option Addr) (l : List ByteArray) (c : Nat) : Prop := w.ownsRow B 9 1 (.slice A l.length c) l.length (strVs l)
theorem OwnS.strs {w : World} {B : Nat} {A : Option Addr} {l : List ByteArray} {c : Nat} (h : OwnS w B A l c) : Strs w A l ∧ l.length ≤ c ∧ ∀ q, A = some q → B ≤ q.block := by
  rcases h.2 with ⟨e, h0⟩ | ⟨g, cap, cur, e, hg, _, hnc, _⟩
  · have : l = [] := List.eq_nil_of_length_eq_zero h0
    subst this
    injection e with e1 e2 e3
    subst e1
    exact ⟨Strs.nil_ _ _, by show (0 : Nat) ≤ c; omega, fun q hq => by cases hq⟩
  · injection e with e1 e2 e3
    subst e1; subst e3
    exact ⟨Strs.own h rfl (strVs_at _), hnc, fun q hq => by injection hq with hq; subst hq; exact hg⟩
theorem OwnS.top {w : World} {B : Nat} {A : Option Addr} {l : List ByteArray} {c : Nat} (h : OwnS w B A l c) : ∀ q, A = some q → q.block < w.heap.size := by
  intro q hq
  subst hq
  rcases h.2 with ⟨e, _⟩ | ⟨g, cap, cur, e, hg, hh, _⟩
  · cases e
  · injection e with e1 e2 e3
    injection e1 with e1
    subst e1
    exact (Array.getElem?_eq_some_iff.1 hh).1
theorem OwnS.below {w w' : World} {B : Nat} {A : Option Addr} {l : List ByteArray} {c : Nat} (h : OwnS w B A l c) (hb : Below w.heap.size w w') : OwnS w' B A l c := own_below h hb
theorem OwnS.form {w : World} {B n : Nat} {v : Value} {l : List ByteArray} (h : w.ownsRow B 9 1 v n (strVs l)) (hn : n = l.length) : ∃ A c, v = .slice A l.length c ∧ OwnS w B A l c := by
  subst hn
  rcases h.2 with ⟨rfl, h0⟩ | ⟨g, cap, cur, rfl, hg, _, hnc, _⟩
  · have e : l = [] := List.eq_nil_of_length_eq_zero h0
    subst e
    exact ⟨none, 0, rfl, h⟩
  · exact ⟨_, cap, rfl, h⟩
theorem sclone_any (l : List ByteArray) (A : Option Addr) (c : Nat) (w : World) (hS : Strs w A l) (hl : l.length ≤ 1000000) :
    Calls Tryz.prog 92 #[.slice A l.length c] w fun e w' => (∃ A' c', e = .returned (.slice A' l.length c') ∧ OwnS w' w.heap.size A' l c') ∧ Below w.heap.size w w' := by
  cases A with
  | none =>
    have e : l = [] := by
      cases l with
      | nil => rfl
      | cons x r => obtain ⟨b, o, e, _⟩ := hS 0 (by simp); cases e
    subst e
    exact (Tryz.slices_Clone_string_nil 0 c w).mono fun e w' ⟨he, hw⟩ => ⟨⟨none, 0, he, World.ownsRow_nil _ _ _ _⟩, hw ▸ Below.refl _ _⟩
  | some a =>
    by_cases h0 : l.length = 0
    · have e : l = [] := List.eq_nil_of_length_eq_zero h0
      subst e
      refine (Tryz.slices_Clone_string_zero a c w).mono fun e w' ⟨v', he, ho, _, hb⟩ => ⟨?_, hb⟩
      obtain ⟨A', c', rfl, h⟩ := OwnS.form (l := []) ho rfl
      exact ⟨A', c', he, h⟩
    · obtain ⟨b, o, e, _⟩ := hS 0 (by omega)
      injection e with e
      subst e
      refine (Tryz.slices_Clone_string b o l.length c l w (Nat.le_refl _) (by omega) (fun j hj => ?_)).mono fun e w' ⟨v', he, ho, _, hb⟩ => ⟨?_, hb⟩
      · obtain ⟨b', o', e, hc⟩ := hS j hj
        injection e with e
        injection e with e1 e2
        subst e1; subst e2
        rw [hc, List.getD_eq_getElem?_getD, List.getElem?_eq_getElem hj, Option.getD_some]
      · rw [List.take_length] at ho
        obtain ⟨A', c', rfl, h⟩ := OwnS.form (l := l) ho rfl
        exact ⟨A', c', he, h⟩
/-- The first k lists are cloned. -/
structure Cloned (w : World) (B : Nat) (c : Cl) (p : P3) (k : Nat) : Prop where
  o1 : 0 < k → OwnS w B p.a1 c.aud p.c1
  o2 : 1 < k → OwnS w B p.a2 c.sco p.c2
  o3 : 2 < k → OwnS w B p.a3 c.act p.c3
  ap : 2 < k → ∀ q r, p.a3 = some r → (p.a1 = some q ∨ p.a2 = some q) → q.block < r.block
theorem Cloned.zero (w : World) (B : Nat) (c : Cl) (p : P3) : Cloned w B c p 0 := ⟨fun h => absurd h (by omega), fun h => absurd h (by omega), fun h => absurd h (by omega), fun h => absurd h (by omega)⟩
theorem Cloned.below {w w' : World} {B : Nat} {c : Cl} {p : P3} {k : Nat} (h : Cloned w B c p k) (hb : Below w.heap.size w w') : Cloned w' B c p k := ⟨fun i => (h.o1 i).below hb, fun i => (h.o2 i).below hb, fun i => (h.o3 i).below hb, h.ap⟩
theorem Cloned.next {w : World} {B : Nat} {c : Cl} {p : P3} {k : Nat} {A : Option Addr} {n : Nat} (h : Cloned w B c p k) (hk : k < 3) (ho : OwnS w B A (lstAt c k) n) (M : Nat) (hM : ∀ r, A = some r → M ≤ r.block) (hold : k = 2 → ∀ q, (p.a1 = some q ∨ p.a2 = some q) → q.block < M) : Cloned w B c (setP p k A n) (k + 1) := by
  obtain ⟨h1, h2, h3, _⟩ := h
  rcases k with _|_|_|k
  · exact ⟨fun _ => ho, fun i => absurd i (by omega), fun i => absurd i (by omega), fun i => absurd i (by omega)⟩
  · exact ⟨fun _ => h1 (by omega), fun _ => ho, fun i => absurd i (by omega), fun i => absurd i (by omega)⟩
  · exact ⟨fun _ => h1 (by omega), fun _ => h2 (by omega), fun _ => ho, fun _ q r hr hq => Nat.lt_of_lt_of_le (hold rfl q hq) (hM r hr)⟩
  · omega
theorem OwnS.setCell {w : World} {B : Nat} {A : Option Addr} {l : List ByteArray} {c : Nat} (h : OwnS w B A l c) {b i : Nat} {v : Value} (hb : b < B) : OwnS (w.setCell ⟨b, i, none⟩ v) B A l c := ownsRow_setCell_below h hb _
theorem OwnS.setRow {w : World} {B : Nat} {A : Option Addr} {l : List ByteArray} {c : Nat} (h : OwnS w B A l c) {b : Nat} {cs : Array Value} (hb : b < B) : OwnS (w.setRow b cs) B A l c := by
  refine ⟨h.1, ?_⟩
  rcases h.2 with hn | ⟨g, cap, cur, e, hg, hh, rest⟩
  · exact .inl hn
  · exact .inr ⟨g, cap, cur, e, hg, (setRow_other w b g cs (by omega)).trans hh, rest⟩
theorem Cloned.put {w : World} {B : Nat} {c : Cl} {p : P3} {k : Nat} (h : Cloned w B c p k) {b i : Nat} {v : Value} (hb : b < B) : Cloned (w.setCell ⟨b, i, none⟩ v) B c p k := ⟨fun i => (h.o1 i).setCell hb, fun i => (h.o2 i).setCell hb, fun i => (h.o3 i).setCell hb, h.ap⟩
theorem ClBox.lset {w : World} {b : Nat} {c : Cl} {p : P3} {k : Nat} {A : Option Addr} {n : Nat} (h : ClBox w b c p) (hk : k < 3) : ClBox (w.setCell ⟨b, 8 + k, none⟩ (.slice A (lstAt c k).length n)) b c (setP p k A n) := by
  rcases k with _|_|_|k
  all_goals first | omega | exact h.put _ _ rfl
/-- Small lists. -/
def SmallL (c : Cl) : Prop := c.aud.length ≤ 1000000 ∧ c.sco.length ≤ 1000000 ∧ c.act.length ≤ 1000000
theorem SmallL.lst {c : Cl} (h : SmallL c) (k : Nat) : (lstAt c k).length ≤ 1000000 := by
  obtain ⟨h1, h2, h3⟩ := h
  rcases k with _|_|_|k
  · exact h1
  · exact h2
  · exact h3
  · show (0 : Nat) ≤ _; omega
/-- The lists of the original that are still to be cloned. -/
def Left (p0 p : P3) (k : Nat) : Prop := ∀ j, k ≤ j → j < 3 → adrAt p j = adrAt p0 j
theorem Left.next {p0 p : P3} {k : Nat} {A : Option Addr} {n : Nat} (h : Left p0 p k) (hk : k < 3) : Left p0 (setP p k A n) (k + 1) := by
  intro j h1 h2
  have h3 := h j (by omega) h2
  rw [← h3]
  rcases k with _|_|_|k
  · rcases j with _|_|_|j <;> first | omega | rfl
  · rcases j with _|_|_|j <;> first | omega | rfl
  · omega
  · omega
set_option maxHeartbeats 4000000 in
set_option maxRecDepth 100000 in
theorem copied_any (c : Cl) (p : P3) (w : World) (hC : ClAt w c p) (hs : SmallL c) :
    Calls Tryz.prog 59 #[clV c p] w fun e w' => (∃ p', e = .returned (clV c p') ∧ Cloned w' (w.heap.size + 2) c p' 3 ∧ w.heap.size + 2 ≤ w'.heap.size) ∧ Below w.heap.size w w' := by
  have B1 : Hid (Below w.heap.size w ((w.alloc (clO c p)).alloc (clO cl0 p30))) := Lib.hid (((Below.refl _ _).alloc (Nat.le_refl _) _).alloc (by simp) _)
  have X1 : Hid (ClBox ((w.alloc (clO c p)).alloc (clO cl0 p30)) w.heap.size c p) := Lib.hid ((ClBox.new w c p).below ((Below.refl _ _).alloc (Nat.le_refl _) _))
  have Y1 : Hid (ClBox ((w.alloc (clO c p)).alloc (clO cl0 p30)) (w.heap.size + 1) cl0 p30) := Lib.hid (by have h := ClBox.new (w.alloc (clO c p)) cl0 p30; simpa using h)
  have HC := Lib.hid hC
  have HS := Lib.hid hs
  clear hC hs
  go_enter Tryz.func59, Tryz.ntmps59
  go_wp2_with (first | (refine box_cl rfl _ rfl _ rfl c p rfl ?_) | (refine alloc_cl rfl _ rfl rfl ?_) | fail)
  refine (lists_any w.heap.size _).mono ?_
  rintro e w1 ⟨rfl, hb1⟩
  have hz1 : w.heap.size + 2 ≤ w1.heap.size := by have := hb1.size; simp at this; omega
  have B2 := Lib.hid (bthen B1.out hb1)
  have X2 := Lib.hid (X1.out.below hb1)
  have Y2 := Lib.hid (Y1.out.below hb1)
  clear hb1 B1 X1 Y1
  go_wp2_with fail
  go_loopw [6] (fun i wr => ∃ (k : Nat) (q : P3), k ≤ 3 ∧ i = .int .i64 k ∧ Hid (Below w.heap.size w wr) ∧ Hid (ClBox wr w.heap.size c q) ∧ Hid (ClBox wr (w.heap.size + 1) cl0 p30) ∧ Hid (Cloned wr (w.heap.size + 2) c q k) ∧ Hid (Left p q k) ∧ w.heap.size + 2 ≤ wr.heap.size) (fun i _ => 3 - (intOf i).toNat)
  case atStart => exact ⟨0, p, Nat.zero_le _, rfl, B2, X2, Y2, Lib.hid (Cloned.zero _ _ _ _), Lib.hid (fun j _ _ => rfl), hz1⟩
  case round =>
    obtain ⟨k, q, hk, rfl, BR, XR, YR, CR, LR, hzr⟩ := hrel
    clear B2 X2 Y2
    by_cases hlt : k < 3
    · have hidx := fun W => idx_lists w.heap.size k hlt W
      have hcell := XR.out.lst k hlt
      have HSA : Hid (Strs wr (adrAt q k) (lstAt c k)) := Lib.hid (by rw [LR.out k (Nat.le_refl _) hlt]; exact (HC.out.below BR.out).lst k hlt)
      have hln := HS.out.lst k
      have HLS : Hid (∀ W A n, ClBox W w.heap.size c q → ClBox (W.setCell ⟨w.heap.size, 8 + k, none⟩ (.slice A (lstAt c k).length n)) w.heap.size c (setP q k A n)) := Lib.hid (fun W A n h => h.lset hlt)
      have HCN : Hid (∀ W A n, Cloned W (w.heap.size + 2) c q k → OwnS W (w.heap.size + 2) A (lstAt c k) n → (∀ r, A = some r → wr.heap.size ≤ r.block) → Cloned W (w.heap.size + 2) c (setP q k A n) (k + 1)) := Lib.hid (fun W A n h h2 h3 => h.next hlt h2 wr.heap.size h3 (fun e r hr => by
        rcases hr with hr | hr
        · exact (CR.out.o1 (by omega)).top r hr
        · exact (CR.out.o2 (by omega)).top r hr))
      have HLN : Hid (∀ A n, Left p (setP q k A n) (k + 1)) := Lib.hid (fun A n => LR.out.next hlt)
      have HFC : Hid (∀ W, ClBox W w.heap.size c q → W.cell? ⟨w.heap.size, 8 + k, none⟩ = some (.slice (adrAt q k) (lstAt c k).length (capAt q k))) := Lib.hid (fun W h => h.lst k hlt)
      obtain ⟨x, HX⟩ : ∃ x, Hid (lstAt c k = x) := ⟨_, Lib.hid rfl⟩
      obtain ⟨A, HA⟩ : ∃ A, Hid (adrAt q k = A) := ⟨_, Lib.hid rfl⟩
      obtain ⟨cp, HCP⟩ : ∃ A, Hid (capAt q k = A) := ⟨_, Lib.hid rfl⟩
      rw [HX.out, HA.out, HCP.out] at hcell HFC
      rw [HX.out, HA.out] at HSA
      rw [HX.out] at hln HLS HCN
      have hk0 : (0 : Int) ≤ (k : Int) := by omega
      go_wp2_with fail
      refine (sclone_any x A cp _ HSA.out hln).mono ?_
      rintro e w3 ⟨⟨A', c', rfl, ho3⟩, hb3⟩
      have NB3 : Hid (∀ r, A' = some r → wr.heap.size ≤ r.block) := Lib.hid ho3.strs.2.2
      have O3 : Hid (OwnS w3 (w.heap.size + 2) A' x c') := Lib.hid (World.ownsRow.mono ho3 hzr)
      have B3 := Lib.hid (bthen BR.out hb3)
      have X3 := Lib.hid (XR.out.below hb3)
      have Y3 := Lib.hid (YR.out.below hb3)
      have C3 := Lib.hid (CR.out.below hb3)
      have hz3 : w.heap.size + 2 ≤ w3.heap.size := by have := hb3.size; omega
      clear hb3 ho3 hcell
      have hc3 := HFC.out w3 X3.out
      have hfr : w3.frozen? ⟨w.heap.size, 8 + k, none⟩ = false := frozen_of_row w3 w.heap.size (8 + k) _ _ X3.out
      go_wp2_with fail
      have X4 := Lib.hid (HLS.out w3 A' c' X3.out)
      have Y4 : Hid (ClBox (w3.setCell ⟨w.heap.size, 8 + k, none⟩ (.slice A' x.length c')) (w.heap.size + 1) cl0 p30) := Lib.hid ((heap_setCell_other w3 ⟨w.heap.size, 8 + k, none⟩ _ _ (by show w.heap.size + 1 ≠ w.heap.size; omega)).trans Y3.out)
      have C4 : Hid (Cloned (w3.setCell ⟨w.heap.size, 8 + k, none⟩ (.slice A' x.length c')) (w.heap.size + 2) c (setP q k A' c') (k + 1)) := Lib.hid (HCN.out _ A' c' (C3.out.put (by omega)) (O3.out.setCell (by omega)) NB3.out)
      have B4 : Hid (Below w.heap.size w (w3.setCell ⟨w.heap.size, 8 + k, none⟩ (.slice A' x.length c'))) := Lib.hid (B3.out.setCell (Nat.le_refl _) _)
      have hz4 : w.heap.size + 2 ≤ (w3.setCell ⟨w.heap.size, 8 + k, none⟩ (.slice A' x.length c')).heap.size := by simpa using hz3
      clear hc3 hfr hidx
      go_roundw
      case rel => exact ⟨k + 1, setP q k A' c', hlt, by go_num, B4, X4, Y4, C4, Lib.hid (HLN.out A' c'), hz4⟩
      case measure => simp [intOf]; omega
    · obtain rfl : k = 3 := by omega
      go_wp2_with (first | (refine load_cl rfl _ rfl _ rfl w.heap.size rfl c q XR ?_) | (refine store_cl rfl _ rfl _ _ rfl (w.heap.size + 1) rfl c q rfl cl0 p30 YR ?_) | fail)
      refine bodyPost_ret (v := clV c q) (ret_cl Tryz.results59 _ _ (w.heap.size + 1) c q rfl (YR.out.set)) rfl ⟨⟨q, rfl, ?_, by simpa using hzr⟩, below_setRow BR.out (by omega) _⟩
      exact ⟨fun i => (CR.out.o1 i).setRow (by omega), fun i => (CR.out.o2 i).setRow (by omega), fun i => (CR.out.o3 i).setRow (by omega), CR.out.ap⟩
end Go.Proofs.YtpmikpijonccjaaGreatDoor

/- claims.within, claims.common and the reference's among. -/
namespace Go.Proofs.YtpmikpijonccjaaGreatDoor
open Go.RowKit

theorem ret_vb {v : Value} {a b : Bool} (h : a = b) : Ending.returned (.tuple #[v, .bool a]) = .returned (.tuple #[v, .bool b]) := by rw [h]
theorem allIn_step {a b : List ByteArray} {k : Nat} (hk : k < a.length) (h : allIn (a.take k) b = true) (hm : memB b a[k] = true) : allIn (a.take (k + 1)) b = true := by
  rw [List.take_succ_eq_append_getElem hk, allIn, List.all_append, ← allIn, h]
  simp [hm]
theorem allIn_bad {a b : List ByteArray} {k : Nat} (hk : k < a.length) (hm : memB b a[k] = false) : allIn a b = false := by
  rw [Bool.eq_false_iff]
  intro h
  have := List.all_eq_true.1 h a[k] (List.getElem_mem hk)
  rw [hm] at this; cases this
theorem allIn_done {a b : List ByteArray} {k : Nat} (hk : ¬ k < a.length) (h : allIn (a.take k) b = true) : allIn a b = true := by
  rwa [List.take_of_length_le (by omega)] at h
theorem among_hit {a b : List ByteArray} {k : Nat} (hk : k < a.length) (hm : memB b a[k] = true) : amongL (a.take (k + 1)) b = amongL (a.take k) b ++ [a[k]] := by
  rw [List.take_succ_eq_append_getElem hk, amongL, List.filter_append, ← amongL]; simp [hm]
theorem among_miss {a b : List ByteArray} {k : Nat} (hk : k < a.length) (hm : memB b a[k] = false) : amongL (a.take (k + 1)) b = amongL (a.take k) b := by
  rw [List.take_succ_eq_append_getElem hk, amongL, List.filter_append, ← amongL]; simp [hm]
theorem among_done {a b : List ByteArray} {k : Nat} (hk : ¬ k < a.length) : amongL (a.take k) b = amongL a b := by rw [List.take_of_length_le (by omega)]
theorem among_le (a b : List ByteArray) (k : Nat) : (amongL (a.take k) b).length ≤ k := by
  have := among_len (a.take k) b
  rw [List.length_take] at this
  omega
set_option maxHeartbeats 2000000 in
theorem within_any (a b : List ByteArray) (A B : Option Addr) (c d : Nat) (w : World) (hA : Strs w A a) (hB : Strs w B b) (hb : b.length ≤ 9223372036854775807) (ha : a.length ≤ 9223372036854775807) :
    Calls Tryz.prog 57 #[.slice A a.length c, .slice B b.length d] w fun e w' => e = .returned (.bool (allIn a b)) ∧ w = w' := by
  have HA := Lib.hid hA
  have HC := Lib.hid (fun s => contains_any b b.length (Nat.le_refl _) B d s w hB hb)
  rw [List.take_length] at HC
  have HBD := Lib.hid (fun k hk h => @allIn_bad a b k hk h)
  obtain ⟨V, HV⟩ : ∃ V, Hid (allIn a b = V) := ⟨_, Lib.hid rfl⟩
  have HDN : Hid (∀ k, ¬ k < a.length → allIn (a.take k) b = true → V = true) := Lib.hid (fun k h1 h2 => HV.out.symm.trans (allIn_done h1 h2))
  rw [HV.out] at HBD
  rw [HV.out]
  clear hA hB
  go_enter Tryz.func57, Tryz.ntmps57
  go_wp2_with fail
  go_loop [9] (fun i => ∃ k : Nat, k ≤ a.length ∧ i = .int .i64 k ∧ Hid (allIn (a.take k) b = true)) (fun i => a.length - (intOf i).toNat)
  case atStart => exact ⟨0, Nat.zero_le _, rfl, Lib.hid rfl⟩
  case round =>
    obtain ⟨k, hk, rfl, HM⟩ := hrel
    by_cases hlt : k < a.length
    · obtain ⟨b0, o, rfl, hc⟩ := HA.out k hlt
      have HST := Lib.hid (fun h => allIn_step hlt HM.out h)
      have HBK := Lib.hid (HBD.out k hlt)
      obtain ⟨x, HX⟩ : ∃ x, Hid (a[k] = x) := ⟨_, Lib.hid rfl⟩
      rw [HX.out] at hc HST HBK
      obtain ⟨M, HMM⟩ : ∃ M, Hid (memB b x = M) := ⟨_, Lib.hid rfl⟩
      rw [HMM.out] at HST HBK
      go_wp2_with fail
      refine (HC.out x).mono ?_
      rintro e wsame ⟨rfl, rfl⟩
      rw [HMM.out]
      cases M with
      | true =>
        go_wp2_with fail
        go_round
        case rel => exact ⟨k + 1, hlt, by go_num, Lib.hid (HST.out (by trivial))⟩
        case measure => simp [intOf]; omega
      | false =>
        have hG := Lib.hid (HBK.out (by trivial))
        go_wp2_with fail
        go_ret
        exact ⟨ret_b hG.out.symm, rfl⟩
    · have hG := Lib.hid (HDN.out k hlt HM.out)
      go_wp2_with fail
      go_ret
      exact ⟨ret_b hG.out.symm, rfl⟩
set_option maxHeartbeats 4000000 in
set_option maxRecDepth 100000 in
theorem common_any (a b : List ByteArray) (A B : Option Addr) (c d : Nat) (w : World) (hA : Strs w A a) (hB : Strs w B b) (hb : b.length ≤ 9223372036854775807) (ha : a.length ≤ 1000000) :
    Calls Tryz.prog 60 #[.slice A a.length c, .slice B b.length d] w fun e w' => (∃ v, e = .returned v ∧ w'.ownsRow w.heap.size 9 1 v (amongL a b).length (strVs (amongL a b))) ∧ Below w.heap.size w w' := by
  obtain ⟨i0, hi, hz0, hz1, hz2⟩ := info_parts Tryz.info_s
  have HA := Lib.hid hA
  have HC : Hid (∀ s W, Below w.heap.size w W → Calls Tryz.prog 32 #[.slice B b.length d, .string s] W fun e w' => e = .returned (.bool (memB b s)) ∧ W = w') := Lib.hid (fun s W h => by
    have := contains_any b b.length (Nat.le_refl _) B d s W (hB.below h) hb
    rwa [List.take_length] at this)
  clear hA hB hb
  go_enter Tryz.func60, Tryz.ntmps60
  go_wp2_with fail
  go_loopw [5, 10] (fun v i wr => ∃ k : Nat, k ≤ a.length ∧ i = .int .i64 k ∧ Hid (wr.ownsRow w.heap.size 9 1 v (amongL (a.take k) b).length (strVs (amongL (a.take k) b))) ∧ Hid (Below w.heap.size w wr)) (fun _ i _ => a.length - (intOf i).toNat)
  case atStart => exact ⟨0, Nat.zero_le _, rfl, Lib.hid (World.ownsRow_nil _ _ _ _), Lib.hid (Below.refl _ _)⟩
  case round =>
    obtain ⟨k, hk, rfl, OR, BR⟩ := hrel
    by_cases hlt : k < a.length
    · obtain ⟨b0, o, rfl, hc⟩ := (HA.out.below BR.out) k hlt
      have HHT := Lib.hid (@among_hit a b k hlt)
      have HMS := Lib.hid (@among_miss a b k hlt)
      have hle := among_le a b k
      obtain ⟨L, HL⟩ : ∃ L, Hid (amongL (a.take k) b = L) := ⟨_, Lib.hid rfl⟩
      obtain ⟨x, HX⟩ : ∃ x, Hid (a[k] = x) := ⟨_, Lib.hid rfl⟩
      rw [HX.out] at hc HHT HMS
      rw [HL.out] at HHT HMS hle OR
      obtain ⟨M, HMM⟩ : ∃ M, Hid (memB b x = M) := ⟨_, Lib.hid rfl⟩
      rw [HMM.out] at HHT HMS
      go_wp2_with fail
      refine (HC.out x _ BR.out).mono ?_
      rintro e wsame ⟨rfl, rfl⟩
      rw [HMM.out]
      cases M with
      | true =>
        go_wp2_with (first
          | (at_builtin; refine wpList_append_own _ rfl _ _ 22 rfl w.heap.size 9 i0 (.string ByteArray.empty) 1 16 Tryz.underlying22 hi hz0 hz1 hz2 rfl (by decide) _ _ _ rfl (OR.out.alloc _) ⟨wr.heap.size, 0, none⟩ 1 1 [strV x] rfl rfl (cell_one_new _ _ _) (by intro u hu; simp at hu; subst hu; rfl) (by unfold maxLen; omega) (by omega) (by have := BR.out.size; simp; omega) ?_; intro v' w4 hown4 hg4 _)
          | fail)
        have B4 : Hid (Below w.heap.size w w4) := Lib.hid ((BR.out.alloc BR.out.size _).grown hg4 (by have := BR.out.size; simp; omega) (fun q hq => (OR.out.lt q hq).1))
        have O4 : Hid (w4.ownsRow w.heap.size 9 1 v' (amongL (a.take (k + 1)) b).length (strVs (amongL (a.take (k + 1)) b))) := Lib.hid (by show World.ownsRow _ _ _ _ _ _ _; rw [HHT.out (by trivial), List.length_append, ← strVs_snoc]; exact hown4)
        clear hown4 hg4
        go_wp2_with fail
        go_roundw
        case rel => exact ⟨k + 1, hlt, by go_num, O4, B4⟩
        case measure => simp [intOf]; omega
      | false =>
        have O4 : Hid (wr.ownsRow w.heap.size 9 1 u5 (amongL (a.take (k + 1)) b).length (strVs (amongL (a.take (k + 1)) b))) := Lib.hid (by rw [HMS.out (by trivial)]; exact OR.out)
        go_wp2_with fail
        go_roundw
        case rel => exact ⟨k + 1, hlt, by go_num, O4, BR⟩
        case measure => simp [intOf]; omega
    · rw [among_done hlt] at OR
      go_wp2_with fail
      go_ret
      exact ⟨⟨_, rfl, OR.out⟩, BR.out⟩
set_option maxHeartbeats 4000000 in
set_option maxRecDepth 100000 in
theorem among_any (a b : List ByteArray) (A B : Option Addr) (c d : Nat) (w : World) (hA : Strs w A a) (hB : Strs w B b) (hb : b.length ≤ 9223372036854775807) (ha : a.length ≤ 1000000) :
    Calls Tryz.prog 61 #[.slice A a.length c, .slice B b.length d] w fun e w' => (∃ v, e = .returned (.tuple #[v, .bool (allIn b a)]) ∧ w'.ownsRow w.heap.size 9 1 v (amongL a b).length (strVs (amongL a b))) ∧ Below w.heap.size w w' := by
  obtain ⟨i0, hi, hz0, hz1, hz2⟩ := info_parts Tryz.info_s
  have HA := Lib.hid hA
  have HB := Lib.hid hB
  have HC : Hid (∀ s W, Below w.heap.size w W → Calls Tryz.prog 28 #[.slice B b.length d, .string s] W fun e w' => e = .returned (.bool (memB b s)) ∧ W = w') := Lib.hid (fun s W h => has_any b B d s W (hB.below h) hb)
  have HC2 : Hid (∀ s W, Below w.heap.size w W → Calls Tryz.prog 28 #[.slice A a.length c, .string s] W fun e w' => e = .returned (.bool (memB a s)) ∧ W = w') := Lib.hid (fun s W h => has_any a A c s W (hA.below h) (by omega))
  have HBD := Lib.hid (fun k hk h => @allIn_bad b a k hk h)
  obtain ⟨V, HV⟩ : ∃ V, Hid (allIn b a = V) := ⟨_, Lib.hid rfl⟩
  have HDN : Hid (∀ k, ¬ k < b.length → allIn (b.take k) a = true → V = true) := Lib.hid (fun k h1 h2 => HV.out.symm.trans (allIn_done h1 h2))
  rw [HV.out] at HBD
  rw [HV.out]
  clear hA hB
  go_enter Tryz.func61, Tryz.ntmps61
  go_wp2_with fail
  go_loopw [6, 7] (fun v i wr => ∃ k : Nat, k ≤ a.length ∧ i = .int .i64 k ∧ Hid (wr.ownsRow w.heap.size 9 1 v (amongL (a.take k) b).length (strVs (amongL (a.take k) b))) ∧ Hid (Below w.heap.size w wr)) (fun _ i _ => a.length - (intOf i).toNat)
  case atStart => exact ⟨0, Nat.zero_le _, rfl, Lib.hid (World.ownsRow_nil _ _ _ _), Lib.hid (Below.refl _ _)⟩
  case round =>
    obtain ⟨k, hk, rfl, OR, BR⟩ := hrel
    by_cases hlt : k < a.length
    · obtain ⟨b0, o, rfl, hc⟩ := (HA.out.below BR.out) k hlt
      have HHT := Lib.hid (@among_hit a b k hlt)
      have HMS := Lib.hid (@among_miss a b k hlt)
      have hle := among_le a b k
      obtain ⟨L, HL⟩ : ∃ L, Hid (amongL (a.take k) b = L) := ⟨_, Lib.hid rfl⟩
      obtain ⟨x, HX⟩ : ∃ x, Hid (a[k] = x) := ⟨_, Lib.hid rfl⟩
      rw [HX.out] at hc HHT HMS
      rw [HL.out] at HHT HMS hle OR
      obtain ⟨M, HMM⟩ : ∃ M, Hid (memB b x = M) := ⟨_, Lib.hid rfl⟩
      rw [HMM.out] at HHT HMS
      go_wp2_with fail
      refine (HC.out x _ BR.out).mono ?_
      rintro e wsame ⟨rfl, rfl⟩
      rw [HMM.out]
      cases M with
      | true =>
        go_wp2_with (first
          | (at_builtin; refine wpList_append_own _ rfl _ _ 22 rfl w.heap.size 9 i0 (.string ByteArray.empty) 1 16 Tryz.underlying22 hi hz0 hz1 hz2 rfl (by decide) _ _ _ rfl (OR.out.alloc _) ⟨wr.heap.size, 0, none⟩ 1 1 [strV x] rfl rfl (cell_one_new _ _ _) (by intro u hu; simp at hu; subst hu; rfl) (by unfold maxLen; omega) (by omega) (by have := BR.out.size; simp; omega) ?_; intro v' w4 hown4 hg4 _)
          | fail)
        have B4 : Hid (Below w.heap.size w w4) := Lib.hid ((BR.out.alloc BR.out.size _).grown hg4 (by have := BR.out.size; simp; omega) (fun q hq => (OR.out.lt q hq).1))
        have O4 : Hid (w4.ownsRow w.heap.size 9 1 v' (amongL (a.take (k + 1)) b).length (strVs (amongL (a.take (k + 1)) b))) := Lib.hid (by show World.ownsRow _ _ _ _ _ _ _; rw [HHT.out (by trivial), List.length_append, ← strVs_snoc]; exact hown4)
        clear hown4 hg4
        go_wp2_with fail
        go_roundw
        case rel => exact ⟨k + 1, hlt, by go_num, O4, B4⟩
        case measure => simp [intOf]; omega
      | false =>
        have O4 : Hid (wr.ownsRow w.heap.size 9 1 u6 (amongL (a.take (k + 1)) b).length (strVs (amongL (a.take (k + 1)) b))) := Lib.hid (by rw [HMS.out (by trivial)]; exact OR.out)
        go_wp2_with fail
        go_roundw
        case rel => exact ⟨k + 1, hlt, by go_num, O4, BR⟩
        case measure => simp [intOf]; omega
    · rw [among_done hlt] at OR
      go_wp2_with fail
      go_loop [8] (fun i => ∃ k : Nat, k ≤ b.length ∧ i = .int .i64 k ∧ Hid (allIn (b.take k) a = true)) (fun i => b.length - (intOf i).toNat)
      case atStart => exact ⟨0, Nat.zero_le _, rfl, Lib.hid rfl⟩
      case round =>
        obtain ⟨m, hm, rfl, HM⟩ := hrel
        by_cases hlt2 : m < b.length
        · obtain ⟨b0, o, rfl, hc⟩ := (HB.out.below BR.out) m hlt2
          have HST := Lib.hid (fun h => allIn_step hlt2 HM.out h)
          have HBK := Lib.hid (HBD.out m hlt2)
          obtain ⟨x, HX⟩ : ∃ x, Hid (b[m] = x) := ⟨_, Lib.hid rfl⟩
          rw [HX.out] at hc HST HBK
          obtain ⟨M, HMM⟩ : ∃ M, Hid (memB a x = M) := ⟨_, Lib.hid rfl⟩
          rw [HMM.out] at HST HBK
          go_wp2_with fail
          refine (HC2.out x _ BR.out).mono ?_
          rintro e wsame ⟨rfl, rfl⟩
          rw [HMM.out]
          cases M with
          | true =>
            go_wp2_with fail
            go_round
            case rel => exact ⟨m + 1, hlt2, by go_num, Lib.hid (HST.out (by trivial))⟩
            case measure => simp [intOf]; omega
          | false =>
            have hG := Lib.hid (HBK.out (by trivial))
            go_wp2_with fail
            go_ret2
            exact ⟨⟨_, ret_vb hG.out.symm, OR.out⟩, BR.out⟩
        · have hG := Lib.hid (HDN.out m hlt2 HM.out)
          go_wp2_with fail
          go_ret2
          exact ⟨⟨_, ret_vb hG.out.symm, OR.out⟩, BR.out⟩
end Go.Proofs.YtpmikpijonccjaaGreatDoor

/- identityref01.Word. -/
namespace Go.Proofs.YtpmikpijonccjaaGreatDoor
open Go.RowKit

def letterC (c : UInt8) : Bool := decide ((97 ≤ c.toNat ∧ c.toNat ≤ 122) ∨ (65 ≤ c.toNat ∧ c.toNat ≤ 90))
def digitC (c : UInt8) : Bool := decide (48 ≤ c.toNat ∧ c.toNat ≤ 57)
theorem rletter_any (c : UInt8) (w : World) :
    Calls Tryz.prog 95 #[.int .u8 (c.toNat : Int)] w fun e w' => e = .returned (.bool (letterC c)) ∧ w = w' := by
  have hcs : (97 ≤ c.toNat ∧ c.toNat ≤ 122) ∨ (65 ≤ c.toNat ∧ c.toNat ≤ 90) ∨ c.toNat < 65 ∨ (90 < c.toNat ∧ c.toNat < 97) ∨ 122 < c.toNat := by omega
  go_enter Tryz.func95, Tryz.ntmps95
  have HN : Hid (∀ b : Bool, (b = true ↔ ((97 ≤ c.toNat ∧ c.toNat ≤ 122) ∨ (65 ≤ c.toNat ∧ c.toNat ≤ 90))) → b = letterC c) := Lib.hid (fun b h => by rw [Bool.eq_iff_iff, h, letterC, decide_eq_true_iff])
  generalize c.toNat = n at *
  rcases hcs with ⟨h1, h2⟩ | ⟨h1, h2⟩ | h | ⟨h1, h2⟩ | h
  all_goals
    go_wp2
    go_ret
    exact ⟨ret_bool (HN.out _ (by simp; try omega)), rfl⟩
theorem rdigit_any (c : UInt8) (w : World) :
    Calls Tryz.prog 96 #[.int .u8 (c.toNat : Int)] w fun e w' => e = .returned (.bool (digitC c)) ∧ w = w' := by
  have hcs : (48 ≤ c.toNat ∧ c.toNat ≤ 57) ∨ c.toNat < 48 ∨ 57 < c.toNat := by omega
  go_enter Tryz.func96, Tryz.ntmps96
  have HN : Hid (∀ b : Bool, (b = true ↔ (48 ≤ c.toNat ∧ c.toNat ≤ 57)) → b = digitC c) := Lib.hid (fun b h => by rw [Bool.eq_iff_iff, h, digitC, decide_eq_true_iff])
  generalize c.toNat = n at *
  rcases hcs with ⟨h1, h2⟩ | h | h
  all_goals
    go_wp2
    go_ret
    exact ⟨ret_bool (HN.out _ (by simp; try omega)), rfl⟩
set_option maxHeartbeats 4000000 in
set_option maxRecDepth 100000 in
theorem rword_any (s : ByteArray) (w : World) (hs : s.size ≤ 9223372036854775807) :
    Calls Tryz.prog 71 #[.string s] w fun e w' => e = .returned (.bool (wordS s)) ∧ w = w' := by
  go_enter Tryz.func71, Tryz.ntmps71
  go_wp2_with fail
  go_loop [3] (fun j => ∃ k : Nat, k ≤ s.size ∧ j = .int .i64 k ∧ Hid ((s.data.toList.take k).all wordC = true)) (fun i => s.size - (intOf i).toNat)
  case atStart => exact ⟨0, Nat.zero_le _, rfl, Lib.hid (by simp)⟩
  case round =>
    obtain ⟨k, hk, rfl, HA⟩ := hrel
    by_cases hlt : k < s.size
    · have HT : Hid (wordC s[k] = true → (s.data.toList.take (k + 1)).all wordC = true) := Lib.hid (fun h => take_all hlt HA.out h)
      have HF : Hid (wordC s[k] = false → wordS s = false) := Lib.hid (fun h => by rw [wordS, all_bad hlt h, Bool.and_false])
      have HL := Lib.hid (rletter_any s[k] w)
      have HD := Lib.hid (rdigit_any s[k] w)
      have hcs : letterC s[k] = true ∨ (letterC s[k] = false ∧ digitC s[k] = true) ∨ (letterC s[k] = false ∧ digitC s[k] = false ∧ (s[k].toNat = 45 ∨ s[k].toNat = 95 ∨ s[k].toNat = 46 ∨ s[k].toNat = 58)) ∨ (letterC s[k] = false ∧ digitC s[k] = false ∧ s[k].toNat ≠ 45 ∧ s[k].toNat ≠ 95 ∧ s[k].toNat ≠ 46 ∧ s[k].toNat ≠ 58) := by
        by_cases h1 : letterC s[k] = true
        · exact .inl h1
        · have h1' : letterC s[k] = false := by simpa using h1
          by_cases h2 : digitC s[k] = true
          · exact .inr (.inl ⟨h1', h2⟩)
          · have h2' : digitC s[k] = false := by simpa using h2
            by_cases h3 : s[k].toNat = 45 ∨ s[k].toNat = 95 ∨ s[k].toNat = 46 ∨ s[k].toNat = 58
            · exact .inr (.inr (.inl ⟨h1', h2', h3⟩))
            · exact .inr (.inr (.inr ⟨h1', h2', by omega, by omega, by omega, by omega⟩))
      rcases hcs with h1 | ⟨h1, h2⟩ | ⟨h1, h2, h3⟩ | ⟨h1, h2, h3, h4, h5, h6⟩
      · have HS := Lib.hid (HT.out (by rw [letterC, decide_eq_true_iff] at h1; rw [wordC, alnumC, Bool.or_eq_true, decide_eq_true_iff]; omega))
        have H1 := Lib.hid h1
        clear h1
        go_wp2_with fail
        refine (Calls.mono HL.out ?_)
        rintro e wsame ⟨rfl, rfl⟩
        rw [H1.out]
        go_wp2_with fail
        go_round
        case rel => exact ⟨k + 1, hlt, by go_num, HS⟩
        case measure => simp [intOf]; omega
      · have HS := Lib.hid (HT.out (by rw [digitC, decide_eq_true_iff] at h2; rw [wordC, alnumC, Bool.or_eq_true, decide_eq_true_iff]; omega))
        have H1 := Lib.hid h1
        have H2 := Lib.hid h2
        clear h1 h2
        go_wp2_with fail
        refine (Calls.mono HL.out ?_)
        rintro e wsame ⟨rfl, rfl⟩
        rw [H1.out]
        go_wp2_with fail
        refine (Calls.mono HD.out ?_)
        rintro e wsame ⟨rfl, rfl⟩
        rw [H2.out]
        go_wp2_with fail
        go_round
        case rel => exact ⟨k + 1, hlt, by go_num, HS⟩
        case measure => simp [intOf]; omega
      · have HS := Lib.hid (HT.out (by rw [wordC, Bool.or_eq_true, decide_eq_true_iff]; exact .inr h3))
        have H1 := Lib.hid h1
        have H2 := Lib.hid h2
        clear h1 h2
        rcases h3 with h3 | h3 | h3 | h3
        ·
          have b0 : ((s[k].toNat : Int) == 45) = true := by rw [h3]; rfl
          have d0 : ((s[k].toNat : Int) != 45) = false := by rw [h3]; rfl
          have b1 : ((s[k].toNat : Int) == 95) = false := by rw [h3]; rfl
          have d1 : ((s[k].toNat : Int) != 95) = true := by rw [h3]; rfl
          have b2 : ((s[k].toNat : Int) == 46) = false := by rw [h3]; rfl
          have d2 : ((s[k].toNat : Int) != 46) = true := by rw [h3]; rfl
          have b3 : ((s[k].toNat : Int) == 58) = false := by rw [h3]; rfl
          have d3 : ((s[k].toNat : Int) != 58) = true := by rw [h3]; rfl
          clear h3
          go_wp2_with fail
          refine (Calls.mono HL.out ?_)
          rintro e wsame ⟨rfl, rfl⟩
          rw [H1.out]
          go_wp2_with fail
          refine (Calls.mono HD.out ?_)
          rintro e wsame ⟨rfl, rfl⟩
          rw [H2.out]
          go_wp2_with fail
          go_round
          case rel => exact ⟨k + 1, hlt, by go_num, HS⟩
          case measure => simp [intOf]; omega
        ·
          have b0 : ((s[k].toNat : Int) == 45) = false := by rw [h3]; rfl
          have d0 : ((s[k].toNat : Int) != 45) = true := by rw [h3]; rfl
          have b1 : ((s[k].toNat : Int) == 95) = true := by rw [h3]; rfl
          have d1 : ((s[k].toNat : Int) != 95) = false := by rw [h3]; rfl
          have b2 : ((s[k].toNat : Int) == 46) = false := by rw [h3]; rfl
          have d2 : ((s[k].toNat : Int) != 46) = true := by rw [h3]; rfl
          have b3 : ((s[k].toNat : Int) == 58) = false := by rw [h3]; rfl
          have d3 : ((s[k].toNat : Int) != 58) = true := by rw [h3]; rfl
          clear h3
          go_wp2_with fail
          refine (Calls.mono HL.out ?_)
          rintro e wsame ⟨rfl, rfl⟩
          rw [H1.out]
          go_wp2_with fail
          refine (Calls.mono HD.out ?_)
          rintro e wsame ⟨rfl, rfl⟩
          rw [H2.out]
          go_wp2_with fail
          go_round
          case rel => exact ⟨k + 1, hlt, by go_num, HS⟩
          case measure => simp [intOf]; omega
        ·
          have b0 : ((s[k].toNat : Int) == 45) = false := by rw [h3]; rfl
          have d0 : ((s[k].toNat : Int) != 45) = true := by rw [h3]; rfl
          have b1 : ((s[k].toNat : Int) == 95) = false := by rw [h3]; rfl
          have d1 : ((s[k].toNat : Int) != 95) = true := by rw [h3]; rfl
          have b2 : ((s[k].toNat : Int) == 46) = true := by rw [h3]; rfl
          have d2 : ((s[k].toNat : Int) != 46) = false := by rw [h3]; rfl
          have b3 : ((s[k].toNat : Int) == 58) = false := by rw [h3]; rfl
          have d3 : ((s[k].toNat : Int) != 58) = true := by rw [h3]; rfl
          clear h3
          go_wp2_with fail
          refine (Calls.mono HL.out ?_)
          rintro e wsame ⟨rfl, rfl⟩
          rw [H1.out]
          go_wp2_with fail
          refine (Calls.mono HD.out ?_)
          rintro e wsame ⟨rfl, rfl⟩
          rw [H2.out]
          go_wp2_with fail
          go_round
          case rel => exact ⟨k + 1, hlt, by go_num, HS⟩
          case measure => simp [intOf]; omega
        ·
          have b0 : ((s[k].toNat : Int) == 45) = false := by rw [h3]; rfl
          have d0 : ((s[k].toNat : Int) != 45) = true := by rw [h3]; rfl
          have b1 : ((s[k].toNat : Int) == 95) = false := by rw [h3]; rfl
          have d1 : ((s[k].toNat : Int) != 95) = true := by rw [h3]; rfl
          have b2 : ((s[k].toNat : Int) == 46) = false := by rw [h3]; rfl
          have d2 : ((s[k].toNat : Int) != 46) = true := by rw [h3]; rfl
          have b3 : ((s[k].toNat : Int) == 58) = true := by rw [h3]; rfl
          have d3 : ((s[k].toNat : Int) != 58) = false := by rw [h3]; rfl
          clear h3
          go_wp2_with fail
          refine (Calls.mono HL.out ?_)
          rintro e wsame ⟨rfl, rfl⟩
          rw [H1.out]
          go_wp2_with fail
          refine (Calls.mono HD.out ?_)
          rintro e wsame ⟨rfl, rfl⟩
          rw [H2.out]
          go_wp2_with fail
          go_round
          case rel => exact ⟨k + 1, hlt, by go_num, HS⟩
          case measure => simp [intOf]; omega
      · have HS := Lib.hid (HF.out (by
          rw [letterC, decide_eq_false_iff_not] at h1
          rw [digitC, decide_eq_false_iff_not] at h2
          rw [wordC, alnumC, Bool.or_eq_false_iff, decide_eq_false_iff_not, decide_eq_false_iff_not]; omega))
        have H1 := Lib.hid h1
        have H2 := Lib.hid h2
        have b1 : ((s[k].toNat : Int) == 45) = false := by rw [beq_eq_false_iff_ne]; omega
        have b2 : ((s[k].toNat : Int) == 95) = false := by rw [beq_eq_false_iff_ne]; omega
        have b3 : ((s[k].toNat : Int) == 46) = false := by rw [beq_eq_false_iff_ne]; omega
        have b4 : ((s[k].toNat : Int) == 58) = false := by rw [beq_eq_false_iff_ne]; omega
        have d1 : ((s[k].toNat : Int) != 45) = true := by rw [bne_iff_ne]; omega
        have d2 : ((s[k].toNat : Int) != 95) = true := by rw [bne_iff_ne]; omega
        have d3 : ((s[k].toNat : Int) != 46) = true := by rw [bne_iff_ne]; omega
        have d4 : ((s[k].toNat : Int) != 58) = true := by rw [bne_iff_ne]; omega
        clear h1 h2 h3 h4 h5 h6
        go_wp2_with fail
        refine (Calls.mono HL.out ?_)
        rintro e wsame ⟨rfl, rfl⟩
        rw [H1.out]
        go_wp2_with fail
        refine (Calls.mono HD.out ?_)
        rintro e wsame ⟨rfl, rfl⟩
        rw [H2.out]
        go_wp2_with fail
        go_ret
        exact ⟨ret_bool HS.out.symm, rfl⟩
    · have HD := Lib.hid (all_done hlt HA.out)
      by_cases h1 : 1 ≤ s.size
      · have HQ : Hid (decide ((s.size : Int) ≤ 64) = wordS s) := Lib.hid (by rw [wordS, HD.out, Bool.and_true]; exact decide_eq_decide.2 (by omega))
        go_wp2_with fail
        go_ret
        exact ⟨ret_bool HQ.out, rfl⟩
      · have HQ : Hid (false = wordS s) := Lib.hid (by rw [wordS, HD.out, Bool.and_true]; exact (decide_eq_false (by omega)).symm)
        go_wp2_with fail
        go_ret
        exact ⟨ret_bool HQ.out, rfl⟩
end Go.Proofs.YtpmikpijonccjaaGreatDoor

