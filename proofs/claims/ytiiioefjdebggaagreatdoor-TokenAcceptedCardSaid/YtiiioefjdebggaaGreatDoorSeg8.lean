/- Joined: ClmEncode, CodReadInt, ClmDec, ClmDecode, KeyOps, KeyFind, KeySort, KeyCheck, KeyCheck2, KeyWin, KeySign, KeySign2. -/
import Derived.Test.YtiiioefjdebggaaGreatDoorSeg4
import Derived.Test.YtiiioefjdebggaaGreatDoorSeg7
import Derived.Test.YtiiioefjdebggaaGreatDoorSeg1
import Derived.Laws.RangeAny
import Derived.Lib.AtoiErrMem
import Derived.Lib.ConvBytes
import Derived.Test.YtiiioefjdebggaaGreatDoorSeg5
import Derived.Deep.QuietTactic
import Derived.BigQuiet
import Derived.Test.YtiiioefjdebggaaGreatDoorSeg2
import Derived.Laws.CopyOwn
import Derived.Deep.RegionHeld3
import Derived.Laws.StructEq
/- claims.Encode. -/
namespace Go.Proofs.YtiiioefjdebggaaGreatDoor
open Go.RowKit

theorem ret_si {s t : ByteArray} {a b : Int} (h1 : s = t) (h2 : a = b) : Ending.returned (.tuple #[.string s, .int .i64 a]) = .returned (.tuple #[.string t, .int .i64 b]) := by rw [h1, h2]
set_option maxHeartbeats 4000000 in
set_option maxRecDepth 100000 in
theorem encode_any (c : Cl) (p : P3) (w : World) (hin : ClIn c p) (hC : ClAt w c p) (hk : KeysOk w) (hp : PowOk w) :
    Calls Tryz.prog 40 #[clV c p] w fun e w' => e = .returned (.tuple #[.string (encV c), .int .i64 (encE c)]) ∧ Below w.heap.size w w' := by
  have B1 : Hid (Below w.heap.size w (w.alloc (clO c p))) := Lib.hid ((Below.refl _ _).alloc (Nat.le_refl _) _)
  have X1 : Hid (ClBox (w.alloc (clO c p)) w.heap.size c p) := Lib.hid (ClBox.new w c p)
  have HC := Lib.hid hC
  have HK := Lib.hid hk
  have HP := Lib.hid hp
  have HI := Lib.hid hin
  clear hC hk hp hin
  obtain ⟨E, HE⟩ : ∃ E, Hid (checkE c = E) := ⟨_, Lib.hid rfl⟩
  obtain ⟨V, HV⟩ : ∃ V, Hid (encV c = V) := ⟨_, Lib.hid rfl⟩
  obtain ⟨G, HG⟩ : ∃ G, Hid (encE c = G) := ⟨_, Lib.hid rfl⟩
  rw [HV.out, HG.out]
  have HB : Hid (E ≠ 0 → G = E ∧ V = ⟨#[]⟩) := Lib.hid (by rw [← HE.out, ← HV.out, ← HG.out]; exact enc_bad)
  have HL : Hid (E = 0 → 4096 < (encS c).size → G = 3 ∧ V = ⟨#[]⟩) := Lib.hid (by rw [← HE.out, ← HV.out, ← HG.out]; exact enc_long)
  have HO : Hid (E = 0 → ¬ 4096 < (encS c).size → G = 0 ∧ V = encS c) := Lib.hid (by rw [← HE.out, ← HV.out, ← HG.out]; exact enc_good)
  go_enter Tryz.func40, Tryz.ntmps40
  go_wp2_with (first | (refine box_cl rfl _ rfl _ rfl c p rfl ?_) | (refine load_cl rfl _ rfl _ rfl w.heap.size rfl c p X1 ?_) | fail)
  refine (check_any c p _ HI.out (HC.out.below B1.out)).mono ?_
  rintro e w2 ⟨rfl, hb2⟩
  rw [HE.out]
  have B2 := Lib.hid (bthen B1.out hb2)
  have X2 := Lib.hid (X1.out.below hb2)
  clear B1 X1 hb2
  by_cases h0 : E = 0
  · have H0 := Lib.hid h0
    have t0 : (E != 0) = false := by rw [h0]; rfl
    have HSM : Hid (ClSmall c) := Lib.hid (check_small (HE.out.trans h0))
    clear h0
    go_wp2_with (first | (refine load_cl rfl _ rfl _ rfl w.heap.size rfl c p X2 ?_) | fail)
    refine (lines_any c p _ HSM.out (HC.out.below B2.out) (HK.out.below B2.out) (HP.out.below B2.out)).mono ?_
    rintro e w3 ⟨rfl, hb3⟩
    have B3 := Lib.hid (bthen B2.out hb3)
    clear hb3
    obtain ⟨S, HS⟩ : ∃ S, Hid (encS c = S) := ⟨_, Lib.hid rfl⟩
    rw [HS.out] at HL HO
    rw [HS.out]
    by_cases hl : 4096 < S.size
    · have HR := Lib.hid (HL.out H0.out hl)
      go_wp2_with fail
      go_ret2
      exact ⟨ret_si HR.out.2.symm HR.out.1.symm, B3.out⟩
    · have HR := Lib.hid (HO.out H0.out hl)
      go_wp2_with fail
      go_ret2
      exact ⟨ret_si HR.out.2.symm HR.out.1.symm, B3.out⟩
  · have t0 : (E != 0) = true := by simp [h0]
    have HR := Lib.hid (HB.out h0)
    clear h0
    go_wp2_with fail
    go_ret2
    exact ⟨ret_si HR.out.2.symm HR.out.1.symm, B2.out⟩
end Go.Proofs.YtiiioefjdebggaaGreatDoor

/- codec.ReadInt computes readIntP. -/
namespace Go.Proofs.YtiiioefjdebggaaGreatDoor
open Go.RowKit

theorem ret_ii {a b x y : Int} (h1 : a = b) (h2 : x = y) : Ending.returned (.tuple #[.int .i64 a, .int .i64 x]) = .returned (.tuple #[.int .i64 b, .int .i64 y]) := by rw [h1, h2]
theorem ret_pp {p : Int × Int} {a x : Int} (h : p = (a, x)) : Ending.returned (.tuple #[.int .i64 a, .int .i64 x]) = .returned (.tuple #[.int .i64 p.1, .int .i64 p.2]) := by rw [h]
/-- The form by what stands behind the sign. -/
def trimB (s : ByteArray) : ByteArray := ⟨(Lib.trimPrefix s.data.toList [45]).toArray⟩
theorem trim_size (s : ByteArray) : (trimB s).size ≤ s.size := by
  show (Lib.trimPrefix s.data.toList [45]).toArray.size ≤ _
  unfold Lib.trimPrefix
  split
  · simp
  · simp
theorem trim_cases (l : List UInt8) : (∃ r, l = 45 :: r ∧ Lib.trimPrefix l [45] = r) ∨ (l = [] ∧ Lib.trimPrefix l [45] = []) ∨ (∃ c r, l = c :: r ∧ c ≠ 45 ∧ Lib.trimPrefix l [45] = l) := by
  cases l with
  | nil => exact .inr (.inl ⟨rfl, by simp [Lib.trimPrefix]⟩)
  | cons c r =>
    by_cases hc : c = 45
    · subst hc
      exact .inl ⟨r, rfl, by simp [Lib.trimPrefix, Lib.hasPrefix]⟩
    · refine .inr (.inr ⟨c, r, rfl, hc, ?_⟩)
      have : Lib.hasPrefix (c :: r) [45] = false := by
        rw [Lib.hasPrefix]
        simp [List.isPrefixOf]
        exact fun h => hc h.symm
      rw [Lib.trimPrefix, this]; rfl
theorem form_empty {s : ByteArray} (h : (trimB s).size = 0) : intForm s.data.toList = false := by
  have e : Lib.trimPrefix s.data.toList [45] = [] := by
    have : (Lib.trimPrefix s.data.toList [45]).toArray.size = 0 := h
    exact List.eq_nil_of_length_eq_zero (by simpa using this)
  rcases trim_cases s.data.toList with ⟨r, h1, h2⟩ | ⟨h1, _⟩ | ⟨c, r, h1, _, h2⟩
  · rw [h1, intForm, if_pos rfl, show r = [] from h2.symm.trans e]; rfl
  · rw [h1]; rfl
  · rw [h2, h1] at e; cases e
theorem trim_list (s : ByteArray) : (trimB s).data.toList = Lib.trimPrefix s.data.toList [45] := by simp [trimB]
theorem head_of {t : ByteArray} (h : 0 < t.size) : t.data.toList = t[0] :: t.data.toList.drop 1 := by
  have := drop_cons t 0 h
  rwa [List.drop_zero] at this
/-- A leading nought. -/
theorem form_lead {s : ByteArray} (h : 0 < (trimB s).size) (h48 : (trimB s)[0].toNat = 48) (hs : s ≠ ⟨#[48]⟩) : intForm s.data.toList = false := by
  have hh := head_of h
  rw [trim_list] at hh
  rcases trim_cases s.data.toList with ⟨r, h1, h2⟩ | ⟨h1, h2⟩ | ⟨c, r, h1, h3, h2⟩
  · rw [h2] at hh
    rw [h1, intForm, if_pos rfl, hh, decL]
    simp [h48]
  · rw [h2] at hh; cases hh
  · rw [h2, h1] at hh
    injection hh with e1 e2
    rw [h1, intForm, if_neg h3, decL, e1]
    have hr : r ≠ [] := by
      intro hr
      apply hs
      apply ByteArray.ext; apply Array.toList_inj.1
      rw [h1, hr, e1]
      show [_] = [_]
      congr 1
      exact UInt8.toNat_inj.1 (by rw [h48]; rfl)
    simp [h48, hr]
theorem form_other {s : ByteArray} (h : 0 < (trimB s).size) (h48 : (trimB s)[0].toNat ≠ 48) : intForm s.data.toList = (trimB s).data.toList.all digC := by
  have hh := head_of h
  have hl := trim_list s
  rw [hl] at hh
  rcases trim_cases s.data.toList with ⟨r, h1, h2⟩ | ⟨h1, h2⟩ | ⟨c, r, h1, h3, h2⟩
  · rw [h2] at hh hl
    rw [hl, h1, intForm, if_pos rfl, hh, decL, decide_eq_false h48]; rfl
  · rw [h2] at hh; cases hh
  · rw [h2, h1] at hh hl
    injection hh with e1 e2
    rw [hl, h1, intForm, if_neg h3, decL, e1, decide_eq_false h48]; rfl
theorem form_nought : intForm (⟨#[48]⟩ : ByteArray).data.toList = (trimB ⟨#[48]⟩).data.toList.all digC := by decide +kernel

/-- strconv.Atoi at a decimal form. -/
theorem atoi_ok (s : ByteArray) (w : World) (hf : intForm s.data.toList = true) (hr : inInt (intVal s.data.toList)) (hs : s.size ≤ 1000000) :
    Calls Tryz.prog 149 #[.string s] w fun e w' => e = .returned (.tuple #[.int .i64 (intVal s.data.toList), .nilIface]) ∧ Below w.heap.size w w' := by
  refine (Tryz.strconv_Atoi_ok s (by omega) (intVal s.data.toList) (by rw [atoi_form hf, if_pos hr]) w).mono ?_
  rintro e w' ⟨he, hw⟩
  refine ⟨he, ?_⟩
  rcases hw with rfl | ⟨t, rfl⟩
  · exact Below.refl _ _
  · exact Lib.bytesWorld_below w _ t
theorem atoi_range (s : ByteArray) (w : World) (hf : intForm s.data.toList = true) (hr : ¬ inInt (intVal s.data.toList)) (hs : s.size ≤ 1000000) (hE : ErrsOk w) :
    Calls Tryz.prog 149 #[.string s] w fun e w' => (∃ (u : Int) (t : TypeId) (p : Value), e = .returned (.tuple #[.int .i64 u, .iface t p])) ∧ Below w.heap.size w w' := by
  obtain ⟨_, ⟨t', p', h2⟩, _, _⟩ := hE
  refine (Tryz.strconv_Atoi_range_var s (by omega) (by rw [atoi_form hf, if_neg hr]) t' p' w h2).mono ?_
  rintro e w' ⟨N, he, _, _, hb⟩
  exact ⟨⟨_, _, _, he⟩, hb⟩

set_option maxHeartbeats 4000000 in
set_option maxRecDepth 100000 in
theorem readint_any (s : ByteArray) (w : World) (hs : s.size ≤ 1000000) (hE : ErrsOk w) :
    Calls Tryz.prog 122 #[.string s] w fun e w' => e = .returned (.tuple #[.int .i64 (readIntP s).1, .int .i64 (readIntP s).2]) ∧ Below w.heap.size w w' := by
  have htr : Calls Tryz.prog 148 #[.string s, .string ⟨#[45]⟩] w fun e w' => e = .returned (.string (trimB s)) ∧ w = w' := (Tryz.strings_TrimPrefix s ⟨#[45]⟩ w).mono fun _ _ h => ⟨h.1, h.2.symm⟩
  have htz := trim_size s
  have hcs : (((s.toList == [48]) = false) ∧ (trimB s).size = 0 ∧ intForm s.data.toList = false) ∨ (((s.toList == [48]) = false) ∧ (∃ h : 0 < (trimB s).size, (trimB s)[0].toNat = 48) ∧ intForm s.data.toList = false) ∨ ((((s.toList == [48]) = false) ∧ ∃ h : 0 < (trimB s).size, (trimB s)[0].toNat ≠ 48) ∧ intForm s.data.toList = (trimB s).data.toList.all digC) ∨ (s = ⟨#[48]⟩ ∧ intForm s.data.toList = (trimB s).data.toList.all digC) := by
    by_cases h0 : s = ⟨#[48]⟩
    · exact .inr (.inr (.inr ⟨h0, by rw [h0]; exact form_nought⟩))
    · have hne : (s.toList == [48]) = false := by
        have := str_ne h0
        rwa [show (⟨#[48]⟩ : ByteArray).toList = [48] by rw [Lib.toList_data]] at this
      by_cases h1 : (trimB s).size = 0
      · exact .inl ⟨hne, h1, form_empty h1⟩
      · have hp : 0 < (trimB s).size := by omega
        by_cases h2 : (trimB s)[0].toNat = 48
        · exact .inr (.inl ⟨hne, ⟨hp, h2⟩, form_lead hp h2 h0⟩)
        · exact .inr (.inr (.inl ⟨⟨hne, hp, h2⟩, form_other hp h2⟩))
  generalize trimB s = t at *
  have HC := Lib.hid hcs
  have HT := Lib.hid htr
  clear htr hcs
  have hse := hs
  rcases HC.out with ⟨hq, h0, hf⟩ | ⟨hq, ⟨hp, h48⟩, hf⟩ | hrest
  · have hG := Lib.hid (readInt_form hf)
    have hte : t.toList.isEmpty = true := by
      rw [Lib.toList_data, List.isEmpty_iff]
      exact List.eq_nil_of_length_eq_zero (by simpa using h0)
    clear hf h0
    go_enter Tryz.func122, Tryz.ntmps122
    go_wp2_with fail
    refine (Calls.mono HT.out ?_)
    rintro e w1 ⟨rfl, rfl⟩
    go_wp2_with fail
    go_ret2
    exact ⟨ret_pp hG.out, Below.refl _ _⟩
  · have hG := Lib.hid (readInt_form hf)
    have hb : ((t[0].toNat : Int) == 48) = true := by rw [h48]; rfl
    have hte : t.toList.isEmpty = false := by
      rw [Lib.toList_data, head_of hp]; rfl
    clear hf h48
    go_enter Tryz.func122, Tryz.ntmps122
    go_wp2_with fail
    refine (Calls.mono HT.out ?_)
    rintro e w1 ⟨rfl, rfl⟩
    go_wp2_with fail
    go_ret2
    exact ⟨ret_pp hG.out, Below.refl _ _⟩
  · have hr2 : ((((s.toList == [48]) = false) ∧ t.toList.isEmpty = false ∧ ∃ h : 0 < t.size, ((t[0].toNat : Int) == 48) = false) ∨ s = ⟨#[48]⟩) ∧ Hid (intForm s.data.toList = t.data.toList.all digC) := by
      rcases hrest with ⟨⟨hq, hp, h48⟩, hf⟩ | ⟨h, hf⟩
      · exact ⟨.inl ⟨hq, by rw [Lib.toList_data, head_of hp]; rfl, hp, by rw [beq_eq_false_iff_ne]; omega⟩, Lib.hid hf⟩
      · exact ⟨.inr h, Lib.hid hf⟩
    obtain ⟨hr3, HF⟩ := hr2
    clear hrest HC
    have hbad : Hid (t.data.toList.all digC = false → readIntP s = (0, 4)) := Lib.hid (fun h => readInt_form (HF.out.trans h))
    have hgood : Hid (t.data.toList.all digC = true → inInt (intVal s.data.toList) → readIntP s = (intVal s.data.toList, 0)) := Lib.hid (fun h hr => readInt_ok (HF.out.trans h) hr)
    have hover : Hid (t.data.toList.all digC = true → ¬ inInt (intVal s.data.toList) → readIntP s = (0, 27)) := Lib.hid (fun h hr => readInt_range (HF.out.trans h) hr)
    have hA := Lib.hid (fun wq hd hr => atoi_ok s wq (HF.out.trans hd) hr hs)
    have hB := Lib.hid (fun wq hd hr hE => atoi_range s wq (HF.out.trans hd) hr hs hE)
    clear HF
    generalize readIntP s = Z at *
    rcases hr3 with ⟨hq, hte, hp, hb⟩ | rfl
    all_goals
      generalize intVal _ = V at *
      go_enter Tryz.func122, Tryz.ntmps122
      go_wp2_with fail
      refine (Calls.mono HT.out ?_)
      rintro e w1 ⟨rfl, rfl⟩
      go_wp2_with fail
      go_loopw [6] (fun _ wr => ∃ pos : Nat, wr = w.iter t pos ∧ Hid ((t.data.toList.take pos).all digC = true) ∧ pos ≤ t.size) (fun _ wr => t.size - wr.iterPos w.heap.size)
      case atStart => exact ⟨0, rfl, Lib.hid (by simp), by omega⟩
      case round =>
        obtain ⟨pos, rfl, HD, hpos⟩ := hrel
        by_cases hlt : pos < t.size
        · obtain ⟨c, hc⟩ : ∃ c, t[pos].toNat = c := ⟨_, rfl⟩
          have HC := Lib.hid hc
          by_cases ha : c < 128
          · have hnx : ∀ ty, (Instr.next (.pointer (some ⟨w.heap.size, 0, none⟩)) true ty).run Tryz.prog (w.iter t pos) = .ok (.tuple #[.bool true, .int .i64 pos, .int .i32 c]) (w.iter t (pos + 1)) := fun ty => by
              have := run_next_ascii (P := Tryz.prog) w t pos ty hlt (by omega)
              rwa [hc] at this
            have hcs : c < 48 ∨ 57 < c ∨ (48 ≤ c ∧ c ≤ 57) := by omega
            clear hc
            rcases hcs with h1 | h1 | ⟨h1, h2⟩
            · have hG := Lib.hid (hbad.out (dig_bad hlt (by rw [digC, HC.out]; simp; omega)))
              go_wp2_with fail
              go_ret2
              exact ⟨ret_pp hG.out, (Below.refl _ _).alloc (Nat.le_refl _) _⟩
            · have hG := Lib.hid (hbad.out (dig_bad hlt (by rw [digC, HC.out]; simp; omega)))
              go_wp2_with fail
              go_ret2
              exact ⟨ret_pp hG.out, (Below.refl _ _).alloc (Nat.le_refl _) _⟩
            · have HD1 : Hid ((t.data.toList.take (pos + 1)).all digC = true) := Lib.hid (dig_all hlt HD.out (by rw [digC, HC.out]; simp; omega))
              go_wp2_with fail
              go_roundw
              case rel => exact ⟨pos + 1, rfl, HD1, by omega⟩
              case measure => simp; omega
          · have hdec := (decode_high t pos hlt (by omega)).1
            have hG := Lib.hid (hbad.out (dig_bad hlt (by rw [digC, HC.out]; simp; omega)))
            obtain ⟨r, hr⟩ : ∃ r, (Utf8.decode t pos).1 = r := ⟨_, rfl⟩
            obtain ⟨q, hq⟩ : ∃ q, pos + (Utf8.decode t pos).2 = q := ⟨_, rfl⟩
            have hnx : ∀ ty, (Instr.next (.pointer (some ⟨w.heap.size, 0, none⟩)) true ty).run Tryz.prog (w.iter t pos) = .ok (.tuple #[.bool true, .int .i64 pos, .int .i32 r]) (w.iter t q) := fun ty => by
              have := run_next_any (P := Tryz.prog) w t pos ty hlt
              rwa [hr, hq] at this
            rw [hr] at hdec
            clear hc hr hq
            go_wp2_with fail
            go_ret2
            exact ⟨ret_pp hG.out, (Below.refl _ _).alloc (Nat.le_refl _) _⟩
        · have hnx : ∀ ty, (Instr.next (.pointer (some ⟨w.heap.size, 0, none⟩)) true ty).run Tryz.prog (w.iter t pos) = .ok (.tuple #[.bool false]) (w.iter t pos) := fun ty => run_next_end w t pos ty hlt
          have HT1 : Hid (t.data.toList.all digC = true) := Lib.hid (by have h := HD.out; rwa [List.take_of_length_le (by simp; have : t.size = t.data.size := rfl; omega)] at h)
          have HBw : Hid (Below w.heap.size w (w.iter t pos)) := Lib.hid ((Below.refl _ _).alloc (Nat.le_refl _) _)
          by_cases hin : inInt V
          · have hG := Lib.hid (hgood.out HT1.out hin)
            have HA := Lib.hid (fun wq => hA.out wq HT1.out hin)
            clear hin
            go_wp2_with fail
            refine (Calls.mono (HA.out _) ?_)
            rintro e w2 ⟨rfl, hb2⟩
            go_wp2_with fail
            go_ret2
            exact ⟨ret_pp hG.out, bthen HBw.out hb2⟩
          · have hG := Lib.hid (hover.out HT1.out hin)
            have HA := Lib.hid (fun wq => hB.out wq HT1.out hin)
            clear hin
            go_wp2_with fail
            refine (Calls.mono (HA.out _ (hE.below HBw.out)) ?_)
            rintro e w2 ⟨⟨u, ti, p, rfl⟩, hb2⟩
            go_wp2_with fail
            go_ret2
            exact ⟨ret_pp hG.out, bthen HBw.out hb2⟩
end Go.Proofs.YtiiioefjdebggaaGreatDoor

/- claims.Decode: what is read, step by step. -/
namespace Go.Proofs.YtiiioefjdebggaaGreatDoor
open Go.RowKit

/-- The claims with the first k strings. -/
def s1 (f : Nat → ByteArray) (k : Nat) : Cl := ⟨if 0 < k then unescS (f 0) else ⟨#[]⟩, if 1 < k then unescS (f 1) else ⟨#[]⟩, if 2 < k then unescS (f 2) else ⟨#[]⟩, if 3 < k then unescS (f 3) else ⟨#[]⟩, if 4 < k then unescS (f 4) else ⟨#[]⟩, if 5 < k then unescS (f 5) else ⟨#[]⟩, if 6 < k then unescS (f 6) else ⟨#[]⟩, if 7 < k then unescS (f 7) else ⟨#[]⟩, [], [], [], 0, 0, 0, 0, 0⟩
/-- .. and the first k lists. -/
def s2 (f : Nat → ByteArray) (k : Nat) : Cl := ⟨unescS (f 0), unescS (f 1), unescS (f 2), unescS (f 3), unescS (f 4), unescS (f 5), unescS (f 6), unescS (f 7), if 0 < k then splitS (f 8) else [], if 1 < k then splitS (f 9) else [], if 2 < k then splitS (f 10) else [], 0, 0, 0, 0, 0⟩
/-- .. and the first k numbers. -/
def s3 (f : Nat → ByteArray) (k : Nat) : Cl := ⟨unescS (f 0), unescS (f 1), unescS (f 2), unescS (f 3), unescS (f 4), unescS (f 5), unescS (f 6), unescS (f 7), splitS (f 8), splitS (f 9), splitS (f 10), if 0 < k then (readIntP (f 11)).1 else 0, if 1 < k then (readIntP (f 12)).1 else 0, if 2 < k then (readIntP (f 13)).1 else 0, if 3 < k then (readIntP (f 14)).1 else 0, if 4 < k then (readIntP (f 15)).1 else 0⟩
theorem s1_zero (f : Nat → ByteArray) : s1 f 0 = cl0 := rfl
theorem s1_all (f : Nat → ByteArray) : s1 f 8 = s2 f 0 := rfl
theorem s2_all (f : Nat → ByteArray) : s2 f 3 = s3 f 0 := rfl
theorem s3_all (f : Nat → ByteArray) : s3 f 5 = decC f := rfl
def setP (p : P3) (k : Nat) (A : Option Addr) (c : Nat) : P3 := if k = 0 then ⟨A, c, p.a2, p.c2, p.a3, p.c3⟩ else if k = 1 then ⟨p.a1, p.c1, A, c, p.a3, p.c3⟩ else ⟨p.a1, p.c1, p.a2, p.c2, A, c⟩
theorem ClBox.put {w : World} {b : Nat} {c c' : Cl} {p p' : P3} (h : ClBox w b c p) (k : Nat) (v : Value) (he : (clA c p).setIfInBounds k v = clA c' p') : ClBox (w.setCell ⟨b, k, none⟩ v) b c' p' := by
  have := heap_setCell_same w b k _ _ v h
  rw [ClBox, this]
  exact congrArg (fun x => some (Obj.cells x 25 (0, 0))) he
theorem ClBox.s1 {w : World} {b : Nat} {f : Nat → ByteArray} {p : P3} {k : Nat} (h : ClBox w b (s1 f k) p) (hk : k < 8) : ClBox (w.setCell ⟨b, k, none⟩ (.string (unescS (f k)))) b (s1 f (k + 1)) p := by
  rcases k with _|_|_|_|_|_|_|_|k
  all_goals first | omega | exact h.put _ _ rfl
theorem ClBox.s2 {w : World} {b : Nat} {f : Nat → ByteArray} {p : P3} {k : Nat} {A : Option Addr} {c : Nat} (h : ClBox w b (s2 f k) p) (hk : k < 3) : ClBox (w.setCell ⟨b, 8 + k, none⟩ (.slice A (splitS (f (8 + k))).length c)) b (s2 f (k + 1)) (setP p k A c) := by
  rcases k with _|_|_|k
  all_goals first | omega | exact h.put _ _ rfl
theorem ClBox.s3 {w : World} {b : Nat} {f : Nat → ByteArray} {p : P3} {k : Nat} (h : ClBox w b (s3 f k) p) (hk : k < 5) : ClBox (w.setCell ⟨b, 11 + k, none⟩ (.int .i64 (readIntP (f (11 + k))).1)) b (s3 f (k + 1)) p := by
  rcases k with _|_|_|_|_|k
  all_goals first | omega | exact h.put _ _ rfl
/-- The lists that were read lie in memory. -/
structure Ls (w : World) (c : Cl) (p : P3) : Prop where
  at_ : ClAt w c p
  l1 : c.aud.length ≤ p.c1
  l2 : c.sco.length ≤ p.c2
  l3 : c.act.length ≤ p.c3
theorem Ls.zero (w : World) (f : Nat → ByteArray) : Ls w (s2 f 0) p30 := ⟨⟨Strs.nil_ _ _, Strs.nil_ _ _, Strs.nil_ _ _⟩, Nat.le_refl _, Nat.le_refl _, Nat.le_refl _⟩
theorem Ls.below {w w' : World} {c : Cl} {p : P3} (h : Ls w c p) (hb : Below w.heap.size w w') : Ls w' c p := ⟨h.at_.below hb, h.l1, h.l2, h.l3⟩
theorem Ls.next {w : World} {f : Nat → ByteArray} {p : P3} {k : Nat} {A : Option Addr} {c : Nat} (h : Ls w (Go.Proofs.YtiiioefjdebggaaGreatDoor.s2 f k) p) (hk : k < 3) (hA : Strs w A (splitS (f (8 + k)))) (hc : (splitS (f (8 + k))).length ≤ c) : Ls w (Go.Proofs.YtiiioefjdebggaaGreatDoor.s2 f (k + 1)) (setP p k A c) := by
  obtain ⟨⟨h1, h2, h3⟩, g1, g2, g3⟩ := h
  rcases k with _|_|_|k
  · exact ⟨⟨hA, h2, h3⟩, hc, g2, g3⟩
  · exact ⟨⟨h1, hA, h3⟩, g1, hc, g3⟩
  · exact ⟨⟨h1, h2, hA⟩, g1, g2, hc⟩
  · omega
/-- A store into a block does not touch strings elsewhere. -/
theorem Strs.setCell {w : World} {A : Option Addr} {l : List ByteArray} (h : Strs w A l) {b i : Nat} {v : Value} (hb : ∀ p, A = some p → l ≠ [] → p.block ≠ b) : Strs (w.setCell ⟨b, i, none⟩ v) A l := by
  intro j hj
  obtain ⟨g, o, e, hc⟩ := h j hj
  refine ⟨g, o, e, ?_⟩
  rw [World.cell?_setCell_other]
  · exact hc
  · intro he
    injection he with h1
    exact hb _ e (fun hn => by subst hn; simp at hj) h1.symm
set_option maxHeartbeats 1000000 in
theorem value_any (i : Nat) (hi : i < 16) (ls : List ByteArray) (hl : ls.length = 17) (hz : ∀ s ∈ ls, s.size ≤ 1000000) (b cap : Nat) (A : Option Addr) (w : World) (hc : w.cell? ⟨b, 0, none⟩ = some (.slice A ls.length cap)) (hS : Strs w A ls) (hk : KeysOk w) :
    Calls Tryz.prog 118 #[.int .i64 i, .pointer (some ⟨b, 0, none⟩)] w fun e w' => e = .returned (.string (valP (keysS[i]'hi) (ls[i]'(by omega)))) ∧ Below w.heap.size w w' := by
  obtain ⟨g, o, rfl, hc2⟩ := hS i (by omega)
  have hc1 := hk.cell i hi
  have hkz := keys_len _ (List.getElem_mem (l := keysS) hi)
  have hlz := hz _ (List.getElem_mem (l := ls) (show i < ls.length by omega))
  obtain ⟨x, HX⟩ : ∃ x, Hid (keysS[i]'hi = x) := ⟨_, Lib.hid rfl⟩
  obtain ⟨y, HY⟩ : ∃ y, Hid (ls[i]'(by omega) = y) := ⟨_, Lib.hid rfl⟩
  rw [HX.out] at hc1 hkz
  rw [HY.out] at hc2 hlz
  rw [HX.out, HY.out]
  have f1 : (0 : Int) ≤ (i : Int) := by omega
  have f2 : (i : Int) < 16 := by omega
  have f3 : (i : Int) < (ls.length : Int) := by omega
  have HCP : Hid (∀ W, Calls Tryz.prog 119 #[.string y, .string (x ++ ⟨#[61]⟩)] W fun e w' => e = .returned (.tuple #[.string (valP x y), .bool (Lib.hasPrefix y.data.toList (x ++ ⟨#[61]⟩ : ByteArray).data.toList)]) ∧ w' = W) := Lib.hid (fun W => by
    have h := Tryz.strings_CutPrefix y (x ++ ⟨#[61]⟩) W
    unfold valP bsOf keyE
    exact h)
  obtain ⟨H, HH⟩ : ∃ H, Hid (Lib.hasPrefix y.data.toList (x ++ ⟨#[61]⟩ : ByteArray).data.toList = H) := ⟨_, Lib.hid rfl⟩
  rw [HH.out] at HCP
  clear HY hl hS hk hz
  go_enter Tryz.func118, Tryz.ntmps118
  go_wp2_with fail
  go_quiet ((go_at_call 119; exact Calls.quiet_of_same (HCP.out _)))
  go_wp2_with fail
  go_ret
  exact ⟨rfl, below_drewN' (Below.refl _ _) _⟩
end Go.Proofs.YtiiioefjdebggaaGreatDoor

/- claims.Decode. -/
namespace Go.Proofs.YtiiioefjdebggaaGreatDoor
open Go.RowKit

theorem cuts_sz (s : ByteArray) (c : UInt8) : ∀ t ∈ cutsS s c, t.size ≤ s.size := by
  intro t ht
  rw [cutsS, cutsL, List.mem_map] at ht
  obtain ⟨x, hx, rfl⟩ := ht
  have := (joinL_ge c (cutL c s.data.toList)).2 x hx
  rw [join_cut] at this
  rw [bs_len]
  simpa using this
theorem valsP_size (s : ByteArray) (i : Nat) : (valsP s i).size ≤ s.size := by
  refine Nat.le_trans (valP_size _ _) ?_
  rw [List.getD_eq_getElem?_getD]
  cases h : (cutsS s 10)[i]? with
  | none => show (0 : Nat) ≤ _; omega
  | some t => exact cuts_sz s 10 t (List.mem_of_getElem? h)
theorem unescS_size (t : ByteArray) : (unescS t).size ≤ t.size := by
  rw [unescS]
  cases h : unescO t with
  | none => show (0 : Nat) ≤ _; omega
  | some s => exact unescO_size h
theorem splitS_len (t : ByteArray) : (splitS t).length ≤ t.size + 1 ∧ ∀ x ∈ splitS t, x.size ≤ t.size + 1 := by
  rw [splitS]
  cases h : splitO t with
  | none => exact ⟨by show (0 : Nat) ≤ _; omega, fun x hx => by simp at hx⟩
  | some l => exact split_len h
theorem readIntP_in (t : ByteArray) : inInt (readIntP t).1 := by
  unfold readIntP
  split
  · split
    · assumption
    · unfold inInt; omega
  · unfold inInt; omega
theorem decC_in {f : Nat → ByteArray} {p : P3} (hf : ∀ i, (f i).size ≤ 5000) (h1 : (splitS (f 8)).length ≤ p.c1) (h2 : (splitS (f 9)).length ≤ p.c2) (h3 : (splitS (f 10)).length ≤ p.c3) : ClIn (decC f) p := by
  have u : ∀ i, (unescS (f i)).size ≤ 9223372036854775807 := fun i => by have := unescS_size (f i); have := hf i; omega
  have l : ∀ i, (splitS (f i)).length ≤ 9223372036854775807 := fun i => by have := (splitS_len (f i)).1; have := hf i; omega
  have z : ∀ i, ∀ s ∈ splitS (f i), s.size ≤ 9223372036854775807 := fun i s hs => by have := (splitS_len (f i)).2 s hs; have := hf i; omega
  exact ⟨u 0, u 1, u 2, u 3, u 4, u 5, u 6, u 7, h1, h2, h3, l 8, l 9, l 10, z 8, z 9, z 10, readIntP_in _, readIntP_in _, readIntP_in _, readIntP_in _, readIntP_in _⟩
/-- What Decode returns. -/
def RetDec25 (s : ByteArray) (e : Ending) (w' : World) : Prop :=
  (∃ c p, e = .returned (.tuple #[clV c p, .int .i64 0]) ∧ IsDec s c ∧ ClAt w' c p ∧ ClIn c p) ∨ (e = .returned (.tuple #[clV cl0 p30, .int .i64 (decE s)]) ∧ ∀ c, ¬ IsDec s c)
/-- The variables of Decode. -/
structure DecSt (w wr : World) (lb sb cb cap : Nat) (ls : List ByteArray) (c : Cl) (p : P3) : Prop where
  cl : ClBox wr cb c p
  res : ClBox wr w.heap.size cl0 p30
  cell : wr.cell? ⟨lb, 0, none⟩ = some (.slice (some ⟨sb, 0, none⟩) ls.length cap)
  strs : Strs wr (some ⟨sb, 0, none⟩) ls
  below : Below w.heap.size w wr
  l0 : w.heap.size < sb
  l1 : sb < lb
  l2 : lb < cb
  lt : cb < wr.heap.size
theorem DecSt.keep {w wr w' : World} {lb sb cb cap : Nat} {ls : List ByteArray} {c : Cl} {p : P3} (h : DecSt w wr lb sb cb cap ls c p) (hb : Below wr.heap.size wr w') : DecSt w w' lb sb cb cap ls c p := by
  have := hb.size
  have := h.lt
  have := h.l2
  exact ⟨h.cl.below hb, h.res.below hb, (hb.cell (p := ⟨lb, 0, none⟩) (by show lb < _; omega)).trans h.cell, h.strs.below hb, bthen h.below hb, h.l0, h.l1, h.l2, by omega⟩
theorem DecSt.put {w wr : World} {lb sb cb cap : Nat} {ls : List ByteArray} {c c' : Cl} {p p' : P3} {i : Nat} {v : Value} (h : DecSt w wr lb sb cb cap ls c p) (hc : ClBox (wr.setCell ⟨cb, i, none⟩ v) cb c' p') : DecSt w (wr.setCell ⟨cb, i, none⟩ v) lb sb cb cap ls c' p' := by
  have := h.lt
  have := h.l2
  have := h.l1
  have := h.l0
  refine ⟨hc, (heap_setCell_other wr ⟨cb, i, none⟩ _ v (by show w.heap.size ≠ cb; omega)).trans h.res, ?_, h.strs.setCell (fun q hq _ => by injection hq with hq; subst hq; show sb ≠ cb; omega), h.below.setCell (by show w.heap.size ≤ cb; omega) _, h.l0, h.l1, h.l2, by simpa using h.lt⟩
  rw [World.cell?_setCell_other]
  · exact h.cell
  · intro he
    injection he with h1
    omega
/-- The lists lie behind the variables. -/
structure Far (cb : Nat) (p : P3) : Prop where
  f1 : ∀ q, p.a1 = some q → cb < q.block
  f2 : ∀ q, p.a2 = some q → cb < q.block
  f3 : ∀ q, p.a3 = some q → cb < q.block
theorem Far.zero (cb : Nat) : Far cb p30 := ⟨(fun q h => by cases h), (fun q h => by cases h), (fun q h => by cases h)⟩
theorem Far.next {cb : Nat} {p : P3} {k : Nat} {A : Option Addr} {c : Nat} (h : Far cb p) (hk : k < 3) (hA : ∀ q, A = some q → cb < q.block) : Far cb (setP p k A c) := by
  obtain ⟨h1, h2, h3⟩ := h
  rcases k with _|_|_|k
  · exact ⟨hA, h2, h3⟩
  · exact ⟨h1, hA, h3⟩
  · exact ⟨h1, h2, hA⟩
  · omega
theorem ClAt.put {w : World} {c : Cl} {p : P3} {cb i : Nat} {v : Value} (h : ClAt w c p) (hf : Far cb p) : ClAt (w.setCell ⟨cb, i, none⟩ v) c p :=
  ⟨h.aud.setCell (fun q hq _ => by have := hf.f1 q hq; omega), h.sco.setCell (fun q hq _ => by have := hf.f2 q hq; omega), h.act.setCell (fun q hq _ => by have := hf.f3 q hq; omega)⟩
theorem Strs.setRow {w : World} {A : Option Addr} {l : List ByteArray} (h : Strs w A l) {b : Nat} {cs : Array Value} (hb : ∀ q, A = some q → q.block ≠ b) : Strs (w.setRow b cs) A l := by
  intro j hj
  obtain ⟨g, o, e, hc⟩ := h j hj
  refine ⟨g, o, e, ?_⟩
  rw [← hc]
  exact World.cell?_of_block (setRow_other w b g cs (by have := hb _ e; exact this))
theorem ClAt.setRow {w : World} {c : Cl} {p : P3} {b : Nat} {cs : Array Value} (h : ClAt w c p) (h1 : ∀ q, p.a1 = some q → q.block ≠ b) (h2 : ∀ q, p.a2 = some q → q.block ≠ b) (h3 : ∀ q, p.a3 = some q → q.block ≠ b) : ClAt (w.setRow b cs) c p := ⟨h.aud.setRow h1, h.sco.setRow h2, h.act.setRow h3⟩
theorem Ls.put {w : World} {c : Cl} {p : P3} {cb i : Nat} {v : Value} (h : Ls w c p) (hf : Far cb p) : Ls (w.setCell ⟨cb, i, none⟩ v) c p := ⟨h.at_.put hf, h.l1, h.l2, h.l3⟩
theorem value_at (j : Int) (i : Nat) (hj : (i : Int) = j) (hi : i < 16) (s : ByteArray) (hl : (cutsS s 10).length = 17) (hs : s.size ≤ 4096) (b sb cap : Nat) (w : World) (hc : w.cell? ⟨b, 0, none⟩ = some (.slice (some ⟨sb, 0, none⟩) (cutsS s 10).length cap)) (hS : Strs w (some ⟨sb, 0, none⟩) (cutsS s 10)) (hk : KeysOk w) :
    Calls Tryz.prog 118 #[.int .i64 j, .pointer (some ⟨b, 0, none⟩)] w fun e w' => e = .returned (.string (valsP s i)) ∧ Below w.heap.size w w' := by
  subst hj
  have h := value_any i hi (cutsS s 10) hl (fun t ht => by have := cuts_sz s 10 t ht; omega) b cap _ w hc hS hk
  rw [valsP, List.getD_eq_getElem?_getD, List.getD_eq_getElem?_getD, List.getElem?_eq_getElem (show i < keysS.length from hi), List.getElem?_eq_getElem (show i < (cutsS s 10).length by omega), Option.getD_some, Option.getD_some]
  exact h
set_option maxHeartbeats 16000000 in
set_option maxRecDepth 100000 in
theorem decode_any (s : ByteArray) (w : World) (hs : s.size ≤ 140737488351232) (hk : KeysOk w) (hp : PowOk w) (he : ErrsOk w) :
    Calls Tryz.prog 71 #[.string s] w fun e w' => RetDec25 s e w' ∧ Below w.heap.size w w' := by
  have hmf : ∀ (fn : Fn) (first cap : Array Value) (w : World), (Instr.makeFunc fn first cap).run Tryz.prog w = .ok (.func fn first cap) w := fun _ _ _ _ => rfl
  have B1 : Hid (Below w.heap.size w (w.alloc (clO cl0 p30))) := Lib.hid ((Below.refl _ _).alloc (Nat.le_refl _) _)
  have X1 : Hid (ClBox (w.alloc (clO cl0 p30)) w.heap.size cl0 p30) := Lib.hid (ClBox.new w cl0 p30)
  have HK := Lib.hid hk
  have HP := Lib.hid hp
  have HE := Lib.hid he
  clear hk hp he
  by_cases h1 : 4096 < s.size
  · have HN : Hid (decE s = 3 ∧ ∀ c, ¬ IsDec s c) := Lib.hid ⟨by rw [decE, if_pos h1], fun c hc => by have := hc.2.2; omega⟩
    go_enter Tryz.func71, Tryz.ntmps71
    go_wp2_with (first | (refine alloc_cl rfl _ rfl rfl ?_) | (refine build_cl rfl _ rfl rfl ?_) | (refine store_cl rfl _ rfl _ _ rfl w.heap.size rfl cl0 p30 rfl cl0 p30 X1 ?_) | fail)
    refine bodyPost_ret (v := .tuple #[clV cl0 p30, .int .i64 3]) (res_cl Tryz.results71 _ _ w.heap.size cl0 p30 _ rfl (X1.out.set) rfl) rfl ⟨.inr ⟨by rw [HN.out.1], HN.out.2⟩, ?_⟩
    exact below_setRow B1.out (Nat.le_refl _) _
  · have HS4 : Hid (s.size ≤ 4096) := Lib.hid (by omega)
    go_enter Tryz.func71, Tryz.ntmps71
    go_wp2_with (first | (refine alloc_cl rfl _ rfl rfl ?_) | fail)
    refine (ssplit_any s 10 _ (by omega)).mono ?_
    rintro e w2 ⟨xs, cap, rfl, hcap, hown, hdone, hb2⟩
    have hsz : (w.alloc (clO cl0 p30)).heap.size = w.heap.size + 1 := by simp
    rw [hsz] at hown
    have S2 : Hid (Strs w2 (some ⟨w.heap.size + 1, 0, none⟩) (cutsS s 10)) := Lib.hid (Strs.own hown rfl (fun j hj => hdone j hj hj))
    have B2 := Lib.hid (bthen B1.out hb2)
    have X2 := Lib.hid (X1.out.below hb2)
    have hz2 : w.heap.size + 1 < w2.heap.size := (hown.lt _ rfl).2
    rw [hsz]
    clear hsz hown hdone hb2 B1 X1 hcap
    have HIP := Lib.hid (fun c (h : IsDec s c) => isDec_p h)
    obtain ⟨n, HNN⟩ : ∃ n, Hid ((cutsS s 10).length = n) := ⟨_, Lib.hid rfl⟩
    by_cases h17 : n = 17
    · have H17 : Hid ((cutsS s 10).length = 17) := Lib.hid (HNN.out.trans h17)
      have t0 : ((n : Int) != 17) = false := by rw [h17]; rfl
      rw [HNN.out]
      have hz3 : w2.heap.size + 1 ≤ w2.heap.size + 1 := Nat.le_refl _
      have D3 : Hid (DecSt w ((w2.alloc (.cells #[.slice (some ⟨w.heap.size + 1, 0, none⟩) n cap] 23)).alloc (clO cl0 p30)) w2.heap.size (w.heap.size + 1) (w2.heap.size + 1) cap (cutsS s 10) cl0 p30) := Lib.hid ⟨
        by have h := ClBox.new (w2.alloc (.cells #[.slice (some ⟨w.heap.size + 1, 0, none⟩) n cap] 23)) cl0 p30; simpa using h,
        X2.out.below (((Below.refl _ _).alloc (Nat.le_refl _) _).alloc (by simp) _),
        by rw [HNN.out]; exact cell_of_row _ w2.heap.size 0 _ 23 (0, 0) ((heap_alloc_old _ _ (by simp)).trans (heap_alloc_new w2 _)),
        S2.out.below (((Below.refl _ _).alloc (Nat.le_refl _) _).alloc (by simp) _),
        (B2.out.alloc B2.out.size _).alloc (by have := B2.out.size; simp; omega) _, by omega, hz2, by omega, by simp⟩
      clear h17 B2 X2 S2 hz3
      go_wp2_with (first | (refine alloc_cl rfl _ rfl rfl ?_) | fail)
      refine (texts_any (w2.heap.size + 1) _).mono ?_
      rintro e wa ⟨rfl, hba⟩
      have DA := Lib.hid (D3.out.keep hba)
      clear hba D3
      go_wp2_with fail
      go_loopw [27] (fun i wr => ∃ k : Nat, k ≤ 8 ∧ i = .int .i64 k ∧ Hid (DecSt w wr w2.heap.size (w.heap.size + 1) (w2.heap.size + 1) cap (cutsS s 10) (s1 (valsP s) k) p30)) (fun i _ => 8 - (intOf i).toNat)
      case atStart => exact ⟨0, Nat.zero_le _, rfl, DA⟩
      case round =>
        obtain ⟨k, hk, rfl, DR⟩ := hrel
        clear DA
        by_cases hlt : k < 8
        · have hidx := fun W => idx_texts (w2.heap.size + 1) k hlt W
          have hk16 : k < 16 := by omega
          have hv := value_at (k : Int) k (by omega) (by omega) s H17.out HS4.out w2.heap.size (w.heap.size + 1) cap wr DR.out.cell DR.out.strs (HK.out.below DR.out.below)
          have HVZ : Hid ((valsP s k).size ≤ 5000) := Lib.hid (by have := valsP_size s k; have := HS4.out; omega)
          go_wp2_with fail
          refine hv.mono ?_
          rintro e w4 ⟨rfl, hb4⟩
          have D4 := Lib.hid (DR.out.keep hb4)
          clear hb4 hv
          have HPUT : Hid (∀ w5 v, ClBox w5 (w2.heap.size + 1) (s1 (valsP s) k) p30 → v = unescS (valsP s k) → ClBox (w5.setCell ⟨(w2.heap.size + 1), k, none⟩ (.string v)) (w2.heap.size + 1) (s1 (valsP s) (k + 1)) p30) := Lib.hid (fun w5 v h e => by subst e; exact h.s1 hlt)
          obtain ⟨x, HX⟩ : ∃ x, Hid (valsP s k = x) := ⟨_, Lib.hid rfl⟩
          rw [HX.out] at HVZ HPUT
          rw [HX.out]
          have hxz := HVZ.out
          go_wp2_with fail
          refine (unesc_any x _ (by omega)).mono ?_
          rintro e w5 ⟨rfl, hb5⟩
          have D5 := Lib.hid (D4.out.keep hb5)
          clear hb5
          obtain ⟨y, HY⟩ : ∃ y, Hid (unescS x = y) := ⟨_, Lib.hid rfl⟩
          obtain ⟨ye, HYE⟩ : ∃ y, Hid (unescE x = y) := ⟨_, Lib.hid rfl⟩
          rw [HY.out, HYE.out]
          have hcell := D5.out.cl.str k hlt
          have hfr : w5.frozen? ⟨(w2.heap.size + 1), k, none⟩ = false := frozen_of_row w5 (w2.heap.size + 1) (k) _ _ D5.out.cl
          go_wp2_with fail
          have D6 := Lib.hid (D5.out.put (HPUT.out w5 y D5.out.cl HY.out.symm))
          go_roundw
          case rel => exact ⟨k + 1, hlt, by go_num, D6⟩
          case measure => simp [intOf]; omega
        · obtain rfl : k = 8 := by omega
          have DL : Hid (DecSt w wr w2.heap.size (w.heap.size + 1) (w2.heap.size + 1) cap (cutsS s 10) (s2 (valsP s) 0) p30) := Lib.hid (by have h := DR.out; rwa [s1_all] at h)
          clear DR hlt
          go_wp2_with fail
          refine (lists_any (w2.heap.size + 1) _).mono ?_
          rintro e wa ⟨rfl, hba⟩
          have DA := Lib.hid (DL.out.keep hba)
          clear hba DL
          go_wp2_with fail
          go_loopw [42] (fun i wr => ∃ (k : Nat) (p : P3), k ≤ 3 ∧ i = .int .i64 k ∧ Hid (DecSt w wr w2.heap.size (w.heap.size + 1) (w2.heap.size + 1) cap (cutsS s 10) (s2 (valsP s) k) p) ∧ Hid (Ls wr (s2 (valsP s) k) p) ∧ Hid (Far (w2.heap.size + 1) p)) (fun i _ => 3 - (intOf i).toNat)
          case atStart => exact ⟨0, p30, Nat.zero_le _, rfl, DA, Lib.hid (Ls.zero _ _), Lib.hid (Far.zero _)⟩
          case round =>
            obtain ⟨k, p, hk, rfl, DR, LR, FR⟩ := hrel
            clear DA
            by_cases hlt : k < 3
            · have hidx := fun W => idx_lists (w2.heap.size + 1) k hlt W
              have hk16 : k < 16 := by omega
              have hv := value_at (8 + (k : Int)) (8 + k) (by omega) (by omega) s H17.out HS4.out w2.heap.size (w.heap.size + 1) cap wr DR.out.cell DR.out.strs (HK.out.below DR.out.below)
              have HVZ : Hid ((valsP s (8 + k)).size ≤ 5000) := Lib.hid (by have := valsP_size s (8 + k); have := HS4.out; omega)
              go_wp2_with fail
              refine hv.mono ?_
              rintro e w4 ⟨rfl, hb4⟩
              have D4 := Lib.hid (DR.out.keep hb4)
              have L4 := Lib.hid (LR.out.below hb4)
              clear hb4 hv
              have HPUT : Hid (∀ w5 A c n, ClBox w5 (w2.heap.size + 1) (s2 (valsP s) k) p → n = (splitS (valsP s (8 + k))).length → ClBox (w5.setCell ⟨(w2.heap.size + 1), 8 + k, none⟩ (.slice A n c)) (w2.heap.size + 1) (s2 (valsP s) (k + 1)) (setP p k A c)) := Lib.hid (fun w5 A c n h e => by subst e; exact h.s2 hlt)
              have HLN : Hid (∀ W A c, Ls W (s2 (valsP s) k) p → Strs W A (splitS (valsP s (8 + k))) → (splitS (valsP s (8 + k))).length ≤ c → Ls W (s2 (valsP s) (k + 1)) (setP p k A c)) := Lib.hid (fun W A c h h1 h2 => h.next hlt h1 h2)
              obtain ⟨x, HX⟩ : ∃ x, Hid (valsP s (8 + k) = x) := ⟨_, Lib.hid rfl⟩
              rw [HX.out] at HVZ HPUT HLN
              rw [HX.out]
              have hxz := HVZ.out
              go_wp2_with fail
              refine (csplit_any x _ (by omega)).mono ?_
              rintro e w5 ⟨⟨A5, c5, rfl, hs5, hf5, hl5⟩, hb5⟩
              have D5 := Lib.hid (D4.out.keep hb5)
              have L5 := Lib.hid (L4.out.below hb5)
              have S5 := Lib.hid hs5
              have HL5 := Lib.hid hl5
              have F5 : Hid (Far (w2.heap.size + 1) (setP p k A5 c5)) := Lib.hid (FR.out.next hlt (fun q hq => Nat.lt_of_lt_of_le D4.out.lt (hf5 q hq)))
              clear hb5 hs5 hl5
              have HFA : Hid (∀ q, A5 = some q → q.block ≠ w2.heap.size + 1) := Lib.hid (fun q hq => by have := hf5 q hq; have := D4.out.lt; omega)
              clear hf5
              obtain ⟨y, HY⟩ : ∃ y, Hid (splitS x = y) := ⟨_, Lib.hid rfl⟩
              obtain ⟨ye, HYE⟩ : ∃ y, Hid (splitErr x = y) := ⟨_, Lib.hid rfl⟩
              rw [HY.out] at HPUT HLN S5 HL5
              rw [HY.out, HYE.out]
              have hcell := D5.out.cl.lst k hlt
              have hfr : w5.frozen? ⟨(w2.heap.size + 1), 8 + k, none⟩ = false := frozen_of_row w5 (w2.heap.size + 1) (8 + k) _ _ D5.out.cl
              go_wp2_with fail
              have D6 := Lib.hid (D5.out.put (HPUT.out w5 A5 c5 y.length D5.out.cl rfl))
              have L6 := Lib.hid (HLN.out _ A5 c5 (L5.out.put (i := 8 + k) (v := .slice A5 y.length c5) FR.out) (S5.out.setCell (fun q hq _ => HFA.out q hq)) HL5.out)
              go_roundw
              case rel => exact ⟨k + 1, setP p k A5 c5, hlt, by go_num, D6, L6, F5⟩
              case measure => simp [intOf]; omega
            · obtain rfl : k = 3 := by omega
              have DL : Hid (DecSt w wr w2.heap.size (w.heap.size + 1) (w2.heap.size + 1) cap (cutsS s 10) (s3 (valsP s) 0) p) := Lib.hid (by have h := DR.out; rwa [s2_all] at h)
              have LL : Hid (Ls wr (s3 (valsP s) 0) p) := Lib.hid (by have h := LR.out; rwa [s2_all] at h)
              clear DR LR hlt
              go_wp2_with fail
              refine (numbers_any (w2.heap.size + 1) _).mono ?_
              rintro e wa ⟨rfl, hba⟩
              have DA := Lib.hid (DL.out.keep hba)
              have LA := Lib.hid (LL.out.below hba)
              clear hba DL LL
              go_wp2_with fail
              go_loopw [58] (fun i wr => ∃ k : Nat, k ≤ 5 ∧ i = .int .i64 k ∧ Hid (DecSt w wr w2.heap.size (w.heap.size + 1) (w2.heap.size + 1) cap (cutsS s 10) (s3 (valsP s) k) p) ∧ Hid (Ls wr (s3 (valsP s) 0) p)) (fun i _ => 5 - (intOf i).toNat)
              case atStart => exact ⟨0, Nat.zero_le _, rfl, DA, LA⟩
              case round =>
                obtain ⟨k, hk, rfl, DR, LR⟩ := hrel
                clear DA
                by_cases hlt : k < 5
                · have hidx := fun W => idx_numbers (w2.heap.size + 1) k hlt W
                  have hk16 : k < 16 := by omega
                  have hv := value_at (11 + (k : Int)) (11 + k) (by omega) (by omega) s H17.out HS4.out w2.heap.size (w.heap.size + 1) cap wr DR.out.cell DR.out.strs (HK.out.below DR.out.below)
                  have HVZ : Hid ((valsP s (11 + k)).size ≤ 5000) := Lib.hid (by have := valsP_size s (11 + k); have := HS4.out; omega)
                  go_wp2_with fail
                  refine hv.mono ?_
                  rintro e w4 ⟨rfl, hb4⟩
                  have D4 := Lib.hid (DR.out.keep hb4)
                  have L4 := Lib.hid (LR.out.below hb4)
                  clear hb4 hv
                  have HPUT : Hid (∀ w5 v, ClBox w5 (w2.heap.size + 1) (s3 (valsP s) k) p → v = (readIntP (valsP s (11 + k))).1 → ClBox (w5.setCell ⟨(w2.heap.size + 1), 11 + k, none⟩ (.int .i64 v)) (w2.heap.size + 1) (s3 (valsP s) (k + 1)) p) := Lib.hid (fun w5 v h e => by subst e; exact h.s3 hlt)
                  obtain ⟨x, HX⟩ : ∃ x, Hid (valsP s (11 + k) = x) := ⟨_, Lib.hid rfl⟩
                  rw [HX.out] at HVZ HPUT
                  rw [HX.out]
                  have hxz := HVZ.out
                  go_wp2_with fail
                  refine (readint_any x _ (by omega) (HE.out.below D4.out.below)).mono ?_
                  rintro e w5 ⟨rfl, hb5⟩
                  have D5 := Lib.hid (D4.out.keep hb5)
                  have L5 := Lib.hid (L4.out.below hb5)
                  clear hb5
                  obtain ⟨y, HY⟩ : ∃ y, Hid ((readIntP x).1 = y) := ⟨_, Lib.hid rfl⟩
                  obtain ⟨ye, HYE⟩ : ∃ y, Hid ((readIntP x).2 = y) := ⟨_, Lib.hid rfl⟩
                  rw [HY.out, HYE.out]
                  have hcell := D5.out.cl.num k hlt
                  have hfr : w5.frozen? ⟨(w2.heap.size + 1), 11 + k, none⟩ = false := frozen_of_row w5 (w2.heap.size + 1) (11 + k) _ _ D5.out.cl
                  go_wp2_with fail
                  have D6 := Lib.hid (D5.out.put (HPUT.out w5 y D5.out.cl HY.out.symm))
                  have L6 := Lib.hid (L5.out.put (i := 11 + k) (v := .int .i64 y) FR.out)
                  go_roundw
                  case rel => exact ⟨k + 1, hlt, by go_num, D6, L6⟩
                  case measure => simp [intOf]; omega
                · obtain rfl : k = 5 := by omega
                  have DE : Hid (DecSt w wr w2.heap.size (w.heap.size + 1) (w2.heap.size + 1) cap (cutsS s 10) (decC (valsP s)) p) := Lib.hid (by have h := DR.out; rwa [s3_all] at h)
                  have LE : Hid (ClAt wr (decC (valsP s)) p ∧ ClIn (decC (valsP s)) p) := Lib.hid ⟨⟨LR.out.at_.aud, LR.out.at_.sco, LR.out.at_.act⟩, decC_in (fun i => by have := valsP_size s i; have := HS4.out; omega) LR.out.l1 LR.out.l2 LR.out.l3⟩
                  clear DR LR hlt LA
                  obtain ⟨c, HC⟩ : ∃ c, Hid (decC (valsP s) = c) := ⟨_, Lib.hid rfl⟩
                  have HDC : Hid (∀ d, IsDec s d → d = c) := Lib.hid (fun d hd => (HIP.out d hd).2.symm.trans HC.out)
                  have HD4 : Hid (decE s = 4) := Lib.hid (by rw [decE, if_neg h1])
                  rw [HC.out] at DE LE
                  have X6 := Lib.hid DE.out.cl
                  clear HC HIP
                  go_wp2_with (first | (refine load_cl rfl _ rfl _ rfl (w2.heap.size + 1) rfl c p X6 ?_) | fail)
                  refine (encode_any c p _ LE.out.2 LE.out.1 (HK.out.below DE.out.below) (HP.out.below DE.out.below)).mono ?_
                  rintro e w7 ⟨rfl, hb7⟩
                  have D7 := Lib.hid (DE.out.keep hb7)
                  have L7 := Lib.hid (And.intro (LE.out.1.below hb7) LE.out.2)
                  clear hb7 DE LE X6
                  have R7 := Lib.hid D7.out.res
                  have X7 := Lib.hid D7.out.cl
                  have HIS : Hid (encE c = 0 → encV c = s → IsDec s c) := Lib.hid isDec_of
                  have HIE : Hid (IsDec s c → encE c = 0 ∧ encV c = s) := Lib.hid isDec_enc
                  obtain ⟨E, HEE⟩ : ∃ E, Hid (encE c = E) := ⟨_, Lib.hid rfl⟩
                  obtain ⟨V, HVV⟩ : ∃ V, Hid (encV c = V) := ⟨_, Lib.hid rfl⟩
                  rw [HEE.out, HVV.out] at HIS HIE
                  rw [HEE.out, HVV.out]
                  by_cases h0 : E = 0
                  · by_cases hv : V = s
                    · have HI := Lib.hid (HIS.out h0 hv)
                      have t1 : (E != 0) = false := by rw [h0]; rfl
                      have t2 : (V.toList != s.toList) = false := by rw [hv]; simp
                      have t3 : (V.toList == s.toList) = true := by rw [hv]; simp
                      clear h0 hv
                      go_wp2_with (first | (refine load_cl rfl _ rfl _ rfl (w2.heap.size + 1) rfl c p X7 ?_) | (refine store_cl rfl _ rfl _ _ rfl w.heap.size rfl c p rfl cl0 p30 R7 ?_) | fail)
                      refine bodyPost_ret (v := .tuple #[clV c p, .int .i64 0]) (res_cl Tryz.results71 _ _ w.heap.size c p _ rfl (R7.out.set) rfl) rfl ⟨.inl ⟨c, p, rfl, HI.out, ?_, L7.out.2⟩, ?_⟩
                      · exact L7.out.1.setRow (fun q hq => by have := FR.out.f1 q hq; have := D7.out.l2; have := D7.out.l1; have := D7.out.l0; omega) (fun q hq => by have := FR.out.f2 q hq; have := D7.out.l2; have := D7.out.l1; have := D7.out.l0; omega) (fun q hq => by have := FR.out.f3 q hq; have := D7.out.l2; have := D7.out.l1; have := D7.out.l0; omega)
                      · exact below_setRow D7.out.below (Nat.le_refl _) _
                    · have HN : Hid (∀ d, ¬ IsDec s d) := Lib.hid (fun d hd => by have e := HDC.out d hd; subst e; exact hv (HIE.out hd).2)
                      have t1 : (E != 0) = false := by rw [h0]; rfl
                      have t3 := str_ne hv
                      have t2 : (V.toList != s.toList) = true := by rw [bne, t3]; rfl
                      clear h0 hv
                      go_wp2_with (first | (refine build_cl rfl _ rfl rfl ?_) | (refine store_cl rfl _ rfl _ _ rfl w.heap.size rfl cl0 p30 rfl cl0 p30 R7 ?_) | fail)
                      refine bodyPost_ret (v := .tuple #[clV cl0 p30, .int .i64 4]) (res_cl Tryz.results71 _ _ w.heap.size cl0 p30 _ rfl (R7.out.set) rfl) rfl ⟨.inr ⟨by rw [HD4.out], HN.out⟩, ?_⟩
                      exact below_setRow D7.out.below (Nat.le_refl _) _
                  · have HN : Hid (∀ d, ¬ IsDec s d) := Lib.hid (fun d hd => by have e := HDC.out d hd; subst e; exact h0 (HIE.out hd).1)
                    have t1 : (E != 0) = true := by rw [bne_iff_ne]; exact h0
                    clear h0
                    go_wp2_with (first | (refine build_cl rfl _ rfl rfl ?_) | (refine store_cl rfl _ rfl _ _ rfl w.heap.size rfl cl0 p30 rfl cl0 p30 R7 ?_) | fail)
                    refine bodyPost_ret (v := .tuple #[clV cl0 p30, .int .i64 4]) (res_cl Tryz.results71 _ _ w.heap.size cl0 p30 _ rfl (R7.out.set) rfl) rfl ⟨.inr ⟨by rw [HD4.out], HN.out⟩, ?_⟩
                    exact below_setRow D7.out.below (Nat.le_refl _) _
    · have t0 : ((n : Int) != 17) = true := by rw [bne_iff_ne]; omega
      have HN : Hid (decE s = 4 ∧ ∀ c, ¬ IsDec s c) := Lib.hid ⟨by rw [decE, if_neg h1], fun c hc => h17 (HNN.out.symm.trans (HIP.out c hc).1)⟩
      have X3 : Hid (ClBox (w2.alloc (.cells #[.slice (some ⟨w.heap.size + 1, 0, none⟩) n cap] 23)) w.heap.size cl0 p30) := Lib.hid (X2.out.below ((Below.refl _ _).alloc (Nat.le_refl _) _))
      have B3 : Hid (Below w.heap.size w (w2.alloc (.cells #[.slice (some ⟨w.heap.size + 1, 0, none⟩) n cap] 23))) := Lib.hid (B2.out.alloc B2.out.size _)
      rw [HNN.out]
      clear h17 HIP B2 X2 S2
      go_wp2_with (first | (refine build_cl rfl _ rfl rfl ?_) | (refine store_cl rfl _ rfl _ _ rfl w.heap.size rfl cl0 p30 rfl cl0 p30 X3 ?_) | fail)
      refine bodyPost_ret (v := .tuple #[clV cl0 p30, .int .i64 4]) (res_cl Tryz.results71 _ _ w.heap.size cl0 p30 _ rfl (X3.out.set) rfl) rfl ⟨.inr ⟨by rw [HN.out.1], HN.out.2⟩, ?_⟩
      exact below_setRow B3.out (Nat.le_refl _) _
end Go.Proofs.YtiiioefjdebggaaGreatDoor

/- Keys by value: boxed, loaded and stored whole. -/
namespace Go.Proofs.YtiiioefjdebggaaGreatDoor
open Go.RowKit

def kyA (k : Ky) : Array Value := #[.string k.id, .string k.sec, .int .i64 k.sf, .int .i64 k.su, .int .i64 k.af, .int .i64 k.au]
theorem kyV_eq (k : Ky) : kyV k = .agg (kyA k) := rfl
theorem kyO_eq (k : Ky) : kyO k = .cells (kyA k) 45 (0, 0) := rfl
theorem kyA_size (k : Ky) : (kyA k).size = 6 := rfl
theorem ky_size : (Tryz.prog.info? 45).map (·.size) = some 6 := by kernel_rfl
theorem kyA_one (k : Ky) : (kyA k).all (·.oneCell') = true := by simp [kyA, Value.oneCell']
theorem ky_built : Tryz.prog.built 45 [] = some (kyA ky0) := by kernel_rfl
/-- A variable that holds a key. -/
def KyBox (w : World) (b : Nat) (k : Ky) : Prop := w.heap[b]? = some (kyO k)
theorem KyBox.new (w : World) (k : Ky) : KyBox (w.alloc (kyO k)) w.heap.size k := heap_alloc_new w _
theorem KyBox.below {w w' : World} {b : Nat} {k : Ky} (h : KyBox w b k) (hb : Below w.heap.size w w') : KyBox w' b k := (hb.block b (Array.getElem?_eq_some_iff.1 h).1).trans h
theorem KyBox.lt {w : World} {b : Nat} {k : Ky} (h : KyBox w b k) : b < w.heap.size := (Array.getElem?_eq_some_iff.1 h).1
theorem KyBox.cells {w : World} {b : Nat} {k : Ky} (h : KyBox w b k) :
    w.cell? ⟨b, 0, none⟩ = some (.string k.id) ∧ w.cell? ⟨b, 1, none⟩ = some (.string k.sec) ∧ w.cell? ⟨b, 2, none⟩ = some (.int .i64 k.sf) ∧ w.cell? ⟨b, 3, none⟩ = some (.int .i64 k.su) ∧ w.cell? ⟨b, 4, none⟩ = some (.int .i64 k.af) ∧ w.cell? ⟨b, 5, none⟩ = some (.int .i64 k.au) :=
  ⟨cell_of_row w b 0 _ _ (0, 0) h, cell_of_row w b 1 _ _ (0, 0) h, cell_of_row w b 2 _ _ (0, 0) h, cell_of_row w b 3 _ _ (0, 0) h, cell_of_row w b 4 _ _ (0, 0) h, cell_of_row w b 5 _ _ (0, 0) h⟩
theorem KyBox.set {w : World} {b : Nat} {k0 k : Ky} (h : KyBox w b k0) : KyBox (w.setRow b (kyA k)) b k := setRow_heap w b _ _ _ _ h
theorem KyBox.other {w : World} {b b2 : Nat} {k : Ky} {cs : Array Value} (h : KyBox w b k) (hb : b ≠ b2) : KyBox (w.setRow b2 cs) b k := (setRow_other w b2 b cs hb).trans h
theorem below_ky (w : World) (k0 k : Ky) : Below w.heap.size w ((w.alloc (kyO k0)).setRow w.heap.size (kyA k)) := below_setRow ((Below.refl _ _).alloc (Nat.le_refl _) _) (Nat.le_refl _) _
section
variable {ops : Array Oper} {rest : List Oper} {o : Oper} {a : Act} {w : World} {Q : Exit → Act → World → Prop}
theorem box_ky (hg : o.guard = none) (t : TypeId) (ht : t = 45) (x : Operand) (ho : o.op = .box t x) (k : Ky) (hx : a.eval x = kyV k)
    (h : wpList Tryz.prog ops Q rest (a.put o.dst (.pointer (some ⟨w.heap.size, 0, none⟩))) (w.alloc (kyO k))) : wpList Tryz.prog ops Q (o :: rest) a w := by
  subst ht
  refine wpList_plain hg fun K hK => ?_
  unfold Oper.wp execOp
  simp only [ho, hx, Sem.run_bind, Instr.box, newVar, newRow, run_newObj_alloc, Sem.run_pure, Result.andThen_ok]
  exact hK _ _ h
theorem load_ky (hg : o.guard = none) (t : TypeId) (ht : t = 45) (x : Operand) (ho : o.op = .load t x) (b : Nat) (hx : a.eval x = .pointer (some ⟨b, 0, none⟩)) (k : Ky) (hX : Hid (KyBox w b k))
    (h : wpList Tryz.prog ops Q rest (a.put o.dst (kyV k)) w) : wpList Tryz.prog ops Q (o :: rest) a w := by
  subst ht
  exact wpList_load_row hg 45 x ho b hx 45 (kyA k) (0, 0) _ hX.out Tryz.underlying45 rfl (by rw [kyA_size]; exact ky_size) h
theorem store_ky (hg : o.guard = none) (t : TypeId) (ht : t = 45) (x y : Operand) (ho : o.op = .store t x y) (b : Nat) (hx : a.eval x = .pointer (some ⟨b, 0, none⟩)) (k : Ky) (hy : a.eval y = kyV k) (k0 : Ky) (hX : Hid (KyBox w b k0))
    (h : wpList Tryz.prog ops Q rest (a.put o.dst undef) (w.setRow b (kyA k))) : wpList Tryz.prog ops Q (o :: rest) a w := by
  subst ht
  exact wpList_store_row hg 45 x y ho b (kyA k) hx hy 45 (kyA k0) hX.out (by rw [kyA_size]; exact ky_size) rfl (kyA_one k) h
theorem build_ky (hg : o.guard = none) (t : TypeId) (ht : t = 45) (ho : o.op = .build t #[])
    (h : wpList Tryz.prog ops Q rest (a.put o.dst (kyV ky0)) w) : wpList Tryz.prog ops Q (o :: rest) a w := by
  subst ht
  have e : ((Tryz.prog.built 45 ((#[] : Array (Nat × Operand)).map fun (i, x) => (i, a.eval x)).toList)) = some (kyA ky0) := by
    have : ((#[] : Array (Nat × Operand)).map fun (i, x) => (i, a.eval x)).toList = [] := by simp
    rw [this]; exact ky_built
  exact wpList_build hg 45 #[] ho (by rw [e]; rfl) (by rw [e]; exact h)
theorem alloc_ky (hg : o.guard = none) (t : TypeId) (ht : t = 45) (ho : o.op = .alloc t)
    (h : wpList Tryz.prog ops Q rest (a.put o.dst (.pointer (some ⟨w.heap.size, 0, none⟩))) (w.alloc (kyO ky0))) : wpList Tryz.prog ops Q (o :: rest) a w := by
  subst ht
  refine wpList_plain hg fun K hK => ?_
  have hr : (Instr.alloc 45 true (.tuple #[])).run Tryz.prog w = .ok (.pointer (some ⟨w.heap.size, 0, none⟩)) (w.alloc (kyO ky0)) := by
    have hz : (zeroValue 45).run Tryz.prog w = .ok (kyV ky0) w := Tryz.zeroValue45 w
    simp only [Instr.alloc, Sem.run_bind, hz, newVar, newRow, run_newObj_alloc, Sem.run_pure, Result.andThen_ok]
    rfl
  unfold Oper.wp execOp
  simp only [ho, Sem.run_bind, hr, Sem.run_pure, Result.andThen_ok]
  exact hK _ _ h
/-- An element of a slice of keys, loaded whole. -/
theorem run_load_kyAt (b o : Nat) (k : Ky) (w : World) (h0 : w.cell? ⟨b, o, none⟩ = some (.string k.id)) (h1 : w.cell? ⟨b, o + 1, none⟩ = some (.string k.sec)) (h2 : w.cell? ⟨b, o + 2, none⟩ = some (.int .i64 k.sf)) (h3 : w.cell? ⟨b, o + 3, none⟩ = some (.int .i64 k.su)) (h4 : w.cell? ⟨b, o + 4, none⟩ = some (.int .i64 k.af)) (h5 : w.cell? ⟨b, o + 5, none⟩ = some (.int .i64 k.au)) :
    (loadVar 45 ⟨b, o, none⟩).run Tryz.prog w = .ok (kyV k) w := by
  have hl : (loadCells ⟨b, o, none⟩ (kyC k).length).run Tryz.prog w = .ok (kyC k).toArray w :=
    run_loadCells_list (P := Tryz.prog) w ⟨b, o, none⟩ (kyC k) (fun j v hv => by
      rw [addr_add_off]
      match j, hv with
      | 0, hv => injection hv with hv; subst hv; exact h0
      | 1, hv => injection hv with hv; subst hv; exact h1
      | 2, hv => injection hv with hv; subst hv; exact h2
      | 3, hv => injection hv with hv; subst hv; exact h3
      | 4, hv => injection hv with hv; subst hv; exact h4
      | 5, hv => injection hv with hv; subst hv; exact h5
      | j + 6, hv => simp [kyC] at hv)
  have hs : (sizeOf 45).run Tryz.prog w = .ok 6 w := Tryz.sizeOf45 w
  have hagg : (isAgg 45).run Tryz.prog w = .ok true w := Tryz.isAgg45 w
  have hl : (loadCells ⟨b, o, none⟩ 6).run Tryz.prog w = .ok (kyA k) w := hl
  simp only [loadVar, Sem.run_bind, hagg, hs, hl, Result.andThen_ok, Sem.run_pure, if_true]
  rfl
/-- What stands at a key's place. -/
structure KyAt (w : World) (b o : Nat) (k : Ky) : Prop where
  c0 : w.cell? ⟨b, o, none⟩ = some (.string k.id)
  c1 : w.cell? ⟨b, o + 1, none⟩ = some (.string k.sec)
  c2 : w.cell? ⟨b, o + 2, none⟩ = some (.int .i64 k.sf)
  c3 : w.cell? ⟨b, o + 3, none⟩ = some (.int .i64 k.su)
  c4 : w.cell? ⟨b, o + 4, none⟩ = some (.int .i64 k.af)
  c5 : w.cell? ⟨b, o + 5, none⟩ = some (.int .i64 k.au)
theorem KyAt.lt {w : World} {b o : Nat} {k : Ky} (h : KyAt w b o k) : b < w.heap.size := World.block_lt_of_cell? w _ h.c0
theorem KyAt.below {w w' : World} {b o : Nat} {k : Ky} (h : KyAt w b o k) (hb : Below w.heap.size w w') : KyAt w' b o k := by
  have hc : ∀ j, w'.cell? ⟨b, j, none⟩ = w.cell? ⟨b, j, none⟩ := fun j => hb.cell (p := ⟨b, j, none⟩) h.lt
  exact ⟨(hc _).trans h.c0, (hc _).trans h.c1, (hc _).trans h.c2, (hc _).trans h.c3, (hc _).trans h.c4, (hc _).trans h.c5⟩
theorem KysAt.at {w : World} {A : Option Addr} {l : List Ky} (h : KysAt w A l) (i : Nat) (hi : i < l.length) : ∃ b o, A = some ⟨b, o, none⟩ ∧ KyAt w b (o + i * 6) l[i] := by
  obtain ⟨b, o, e, h0, h1, h2, h3, h4, h5⟩ := h i hi
  exact ⟨b, o, e, h0, h1, h2, h3, h4, h5⟩
theorem load_kyAt (hg : o.guard = none) (t : TypeId) (ht : t = 45) (x : Operand) (ho : o.op = .load t x) (b off : Nat) (hx : a.eval x = .pointer (some ⟨b, off, none⟩)) (k : Ky) (hX : Hid (KyAt w b off k))
    (h : wpList Tryz.prog ops Q rest (a.put o.dst (kyV k)) w) : wpList Tryz.prog ops Q (o :: rest) a w := by
  subst ht
  refine wpList_plain hg fun K hK => ?_
  unfold Oper.wp execOp
  simp only [ho, hx, Instr.loadAt, Instr.sureAddr, Sem.run_bind, Sem.run_pure, run_load_kyAt b off k w hX.out.c0 hX.out.c1 hX.out.c2 hX.out.c3 hX.out.c4 hX.out.c5, Result.andThen_ok]
  exact hK _ _ h
end
end Go.Proofs.YtiiioefjdebggaaGreatDoor

/- keys.find: slices.IndexFunc over keys with its closure. -/
namespace Go.Proofs.YtiiioefjdebggaaGreatDoor
open Go.RowKit

theorem ba_eq_iff {a b : ByteArray} : a.toList = b.toList ↔ a = b := ⟨toList_inj, fun h => by rw [h]⟩
theorem sameId_any (k : Ky) (id : ByteArray) (b : Nat) (w : World) (hc : w.cell? ⟨b, 0, none⟩ = some (.string id)) :
    Calls Tryz.prog 110 #[kyV k, .pointer (some ⟨b, 0, none⟩)] w fun e w' => e = .returned (.bool (decide (k.id = id))) ∧ Below w.heap.size w w' := by
  have hb := World.block_lt_of_cell? w _ hc
  have hb' : b < w.heap.size := hb
  have X1 : Hid (KyBox (w.alloc (kyO k)) w.heap.size k) := Lib.hid (KyBox.new w k)
  have B1 : Hid (Below w.heap.size w (w.alloc (kyO k))) := Lib.hid ((Below.refl _ _).alloc (Nat.le_refl _) _)
  have hc1 : (w.alloc (kyO k)).cell? ⟨b, 0, none⟩ = some (.string id) := (B1.out.cell (p := ⟨b, 0, none⟩) hb').trans hc
  have hk1 := X1.out.cells.1
  have HD := Lib.hid (show (k.id.toList == id.toList) = decide (k.id = id) by
    by_cases h : k.id = id
    · rw [h]; simp
    · rw [str_ne h]; simp [h])
  clear hb hc
  obtain ⟨s, HS⟩ : ∃ s, Hid (k.id = s) := ⟨_, Lib.hid rfl⟩
  rw [HS.out] at hk1 HD
  rw [HS.out]
  go_enter Tryz.func110, Tryz.ntmps110
  go_wp2_with (first | (refine box_ky rfl _ rfl _ rfl k rfl ?_) | fail)
  go_ret
  exact ⟨ret_bool HD.out, B1.out⟩
set_option maxHeartbeats 1000000 in
theorem idxf_any (l : List Ky) (A : Option Addr) (c b : Nat) (id : ByteArray) (w : World) (hS : KysAt w A l) (hl : l.length ≤ 9223372036854775807) (hc : w.cell? ⟨b, 0, none⟩ = some (.string id)) :
    Calls Tryz.prog 109 #[.slice A l.length c, .func (.func 110) #[] #[.pointer (some ⟨b, 0, none⟩)]] w fun e w' => e = .returned (.int .i64 (findI l id)) ∧ Below w.heap.size w w' := by
  have HS := Lib.hid hS
  have hb := World.block_lt_of_cell? w _ hc
  have HC : Hid (∀ w', Below w.heap.size w w' → w'.cell? ⟨b, 0, none⟩ = some (.string id)) := Lib.hid (fun w' h => (h.cell (p := ⟨b, 0, none⟩) hb).trans hc)
  clear hS hc hb
  go_enter Tryz.func109, Tryz.ntmps109
  go_wp2_with fail
  go_loopw [5, 8] (fun _ i wr => ∃ k : Nat, k ≤ l.length ∧ i = .int .i64 k ∧ Hid (∀ j, (h : j < l.length) → j < k → l[j].id ≠ id) ∧ Hid (Below w.heap.size w wr)) (fun _ i _ => l.length - (intOf i).toNat)
  case atStart => exact ⟨0, Nat.zero_le _, rfl, Lib.hid (fun j _ h => absurd h (Nat.not_lt_zero _)), Lib.hid (Below.refl _ _)⟩
  case round =>
    obtain ⟨k, hk, rfl, HN, BR⟩ := hrel
    by_cases hlt : k < l.length
    · obtain ⟨b2, o2, rfl, hat⟩ := (HS.out.below BR.out).at k hlt
      have HAT := Lib.hid hat
      have HF := Lib.hid (fun h : l[k].id = id => findI_at hlt h (fun j hj => HN.out j (by omega) hj))
      have HN2 := Lib.hid (fun (h : l[k].id ≠ id) => (show ∀ j, (hj : j < l.length) → j < k + 1 → l[j].id ≠ id from fun j hj hjk => by
        rcases Nat.lt_succ_iff_lt_or_eq.1 hjk with h1 | rfl
        · exact HN.out j hj h1
        · exact h))
      obtain ⟨x, HX⟩ : ∃ x, Hid (l[k] = x) := ⟨_, Lib.hid rfl⟩
      rw [HX.out] at HAT HF HN2
      clear hat
      have hcell := HC.out wr BR.out
      by_cases he : x.id = id
      · have HV := Lib.hid (HF.out he)
        have hd : decide (x.id = id) = true := decide_eq_true he
        clear HF HN2 he
        go_wp2_with (first | (refine load_kyAt rfl _ rfl _ rfl b2 (o2 + k * 6) rfl x HAT ?_) | fail)
        refine (sameId_any x id b wr hcell).mono ?_
        rintro e w2 ⟨rfl, hb2⟩
        rw [hd]
        have B2 := Lib.hid (bthen BR.out hb2)
        clear hb2
        go_wp2_with fail
        go_ret
        exact ⟨ret_int HV.out.symm, B2.out⟩
      · have HV := Lib.hid (HN2.out he)
        have hd : decide (x.id = id) = false := decide_eq_false he
        clear HF HN2 he
        go_wp2_with (first | (refine load_kyAt rfl _ rfl _ rfl b2 (o2 + k * 6) rfl x HAT ?_) | fail)
        refine (sameId_any x id b wr hcell).mono ?_
        rintro e w2 ⟨rfl, hb2⟩
        rw [hd]
        have B2 := Lib.hid (bthen BR.out hb2)
        clear hb2 hcell
        go_wp2_with fail
        go_roundw
        case rel => exact ⟨k + 1, hlt, by go_num, HV, B2⟩
        case measure => simp [intOf]; omega
    · have HV : Hid (findI l id = -1) := Lib.hid (findI_no (hasK_no (fun i hi => HN.out i hi (by omega))))
      go_wp2_with fail
      go_ret
      exact ⟨ret_int HV.out.symm, BR.out⟩
theorem find_any (l : List Ky) (A : Option Addr) (c : Nat) (id : ByteArray) (w : World) (hS : KysAt w A l) (hl : l.length ≤ 9223372036854775807) :
    Calls Tryz.prog 61 #[.slice A l.length c, .string id] w fun e w' => e = .returned (.int .i64 (findI l id)) ∧ Below w.heap.size w w' := by
  have hmf : ∀ (fn : Fn) (first cap : Array Value) (w : World), (Instr.makeFunc fn first cap).run Tryz.prog w = .ok (.func fn first cap) w := fun _ _ _ _ => rfl
  have B1 : Hid (Below w.heap.size w (w.alloc (.cells #[.string id] 9))) := Lib.hid ((Below.refl _ _).alloc (Nat.le_refl _) _)
  have H1 := Lib.hid (idxf_any l A c w.heap.size id (w.alloc (.cells #[.string id] 9)) (hS.below B1.out) hl (cell_of_row _ _ 0 _ _ (0, 0) (heap_alloc_new w _)))
  clear hS
  go_enter Tryz.func61, Tryz.ntmps61
  go_wp2_with fail
  refine (Calls.mono H1.out ?_)
  rintro e w2 ⟨rfl, hb2⟩
  have B2 := Lib.hid (bthen B1.out hb2)
  clear hb2 H1
  go_wp2_with fail
  go_ret
  exact ⟨rfl, B2.out⟩
end Go.Proofs.YtiiioefjdebggaaGreatDoor

/- slices.IsSorted over ints. -/
namespace Go.Proofs.YtiiioefjdebggaaGreatDoor
open Go.RowKit

theorem isnan_any (a : Int) (w : World) :
    Calls Tryz.prog 175 #[.int .i64 a] w fun e w' => e = .returned (.bool false) ∧ w = w' := by
  have h : (a == a) = true := by simp
  have h2 : (a != a) = false := by simp
  go_enter Tryz.func175, Tryz.ntmps175
  go_wp2_with fail
  go_ret
  exact ⟨ret_bool (by simp), rfl⟩
theorem less_any (a b : Int) (w : World) :
    Calls Tryz.prog 151 #[.int .i64 a, .int .i64 b] w fun e w' => e = .returned (.bool (decide (a < b))) ∧ w = w' := by
  go_enter Tryz.func151, Tryz.ntmps151
  go_wp2_with fail
  refine (isnan_any a _).mono ?_
  rintro e wsame ⟨rfl, rfl⟩
  by_cases h : a < b
  · have h1 : decide (a < b) = true := decide_eq_true h
    go_wp2_with fail
    go_ret
    exact ⟨ret_bool h1.symm, rfl⟩
  · have h1 : decide (a < b) = false := decide_eq_false h
    go_wp2_with fail
    go_ret
    exact ⟨ret_bool h1.symm, rfl⟩
/-- A list in order. -/
def sortedB : List Int → Bool
  | [] => true
  | [_] => true
  | a :: b :: r => decide (a ≤ b) && sortedB (b :: r)
theorem sortedB_iff : ∀ zs : List Int, sortedB zs = true ↔ ∀ j, (h : j + 1 < zs.length) → zs[j] ≤ zs[j + 1]
  | [] => by simp [sortedB]
  | [_] => by simp [sortedB]
  | a :: b :: r => by
    rw [sortedB, Bool.and_eq_true, decide_eq_true_iff, sortedB_iff (b :: r)]
    constructor
    · rintro ⟨h1, h2⟩ j hj
      cases j with
      | zero => exact h1
      | succ j => exact h2 j (by simpa using hj)
    · intro h
      exact ⟨h 0 (by simp), fun j hj => h (j + 1) (by simpa using hj)⟩
theorem sortedB_no {zs : List Int} (j : Nat) (h : j + 1 < zs.length) (hn : zs[j + 1] < zs[j]) : sortedB zs = false := by
  rw [← Bool.not_eq_true, sortedB_iff]
  intro hh
  have := hh j h
  omega
set_option maxHeartbeats 1000000 in
theorem sorted_any (zs : List Int) (b c : Nat) (w : World) (hc : ∀ j, (h : j < zs.length) → w.cell? ⟨b, j, none⟩ = some (.int .i64 zs[j])) (hl : zs.length ≤ 1000) (h0 : 0 < zs.length) :
    Calls Tryz.prog 124 #[.slice (some ⟨b, 0, none⟩) zs.length c] w fun e w' => e = .returned (.bool (sortedB zs)) ∧ Below w.heap.size w w' := by
  have hb := World.block_lt_of_cell? w _ (hc 0 h0)
  have HC : Hid (∀ w', Below w.heap.size w w' → ∀ j, (h : j < zs.length) → w'.cell? ⟨b, j, none⟩ = some (.int .i64 zs[j])) := Lib.hid (fun w' h j hj => (h.cell (p := ⟨b, j, none⟩) hb).trans (hc j hj))
  clear hc hb
  go_enter Tryz.func124, Tryz.ntmps124
  go_wp2_with fail
  go_loopw [3] (fun i wr => ∃ k : Nat, k < zs.length ∧ i = .int .i64 k ∧ Hid (∀ j, k ≤ j → (h : j + 1 < zs.length) → zs[j] ≤ zs[j + 1]) ∧ Hid (Below w.heap.size w wr)) (fun i _ => (intOf i).toNat)
  case atStart => exact ⟨zs.length - 1, by omega, by congr 1; omega, Lib.hid (fun j h1 h2 => by omega), Lib.hid (Below.refl _ _)⟩
  case round =>
    obtain ⟨k, hk, rfl, HR, BR⟩ := hrel
    rcases k with _ | m
    · have HV : Hid (sortedB zs = true) := Lib.hid ((sortedB_iff zs).2 (fun j h => HR.out j (Nat.zero_le _) h))
      go_wp2_with fail
      go_ret
      exact ⟨ret_bool HV.out.symm, BR.out⟩
    · have c0 := HC.out wr BR.out m (by omega)
      have c1 := HC.out wr BR.out (m + 1) hk
      have HN := Lib.hid (sortedB_no m hk)
      have HY := Lib.hid (fun (h : zs[m] ≤ zs[m + 1]) => (show ∀ j, m ≤ j → (h : j + 1 < zs.length) → zs[j] ≤ zs[j + 1] from fun j h1 h2 => by
        rcases Nat.lt_or_ge m j with h3 | h3
        · exact HR.out j h3 h2
        · obtain rfl : j = m := by omega
          exact h))
      obtain ⟨x, HX⟩ : ∃ x, Hid (zs[m] = x) := ⟨_, Lib.hid rfl⟩
      obtain ⟨y, HYY⟩ : ∃ y, Hid (zs[m + 1] = y) := ⟨_, Lib.hid rfl⟩
      rw [HX.out] at c0 HN HY
      rw [HYY.out] at c1 HN HY
      have e2 : ((m : Int) + 1).toNat = m + 1 := by omega
      have BD := Lib.hid BR.out.drew
      have e3 : IntKind.i64.wrap (m : Int) = m := by rw [IntKind.wrap_i64]; omega
      have i0 : (0 : Int) ≤ (m : Int) + 1 := by omega
      have i1 : (m : Int) + 1 < (zs.length : Int) := by omega
      have i2 : (0 : Int) ≤ (m : Int) := by omega
      have i3 : (m : Int) < (zs.length : Int) := by omega
      by_cases hxy : y < x
      · have HV := Lib.hid (HN.out hxy)
        have hd : decide (y < x) = true := decide_eq_true hxy
        clear hxy
        go_wp2_with fail
        go_region_held3 (fun w' => w'.cell? ⟨b, m, none⟩ = some (.int .i64 x) ∧ w'.cell? ⟨b, m + 1, none⟩ = some (.int .i64 y)) (first | go_keep | (exact ⟨c0, c1⟩))
          (first | (go_at_call 151; refine (less_any y x _).mono ?_; rintro e wsame ⟨rfl, rfl⟩; rw [hd]))
        go_wp2_with fail
        go_ret
        exact ⟨ret_bool HV.out.symm, BD.out⟩
      · have HV := Lib.hid (HY.out (by omega))
        have hd : decide (y < x) = false := decide_eq_false hxy
        clear hxy
        go_wp2_with fail
        go_region_held3 (fun w' => w'.cell? ⟨b, m, none⟩ = some (.int .i64 x) ∧ w'.cell? ⟨b, m + 1, none⟩ = some (.int .i64 y)) (first | go_keep | (exact ⟨c0, c1⟩))
          (first | (go_at_call 151; refine (less_any y x _).mono ?_; rintro e wsame ⟨rfl, rfl⟩; rw [hd]))
        go_wp2_with fail
        go_roundw
        case rel => exact ⟨m, by omega, by congr 1, HV, BD⟩
        case measure => simp [intOf]
end Go.Proofs.YtiiioefjdebggaaGreatDoor

/- keys.Check. -/
namespace Go.Proofs.YtiiioefjdebggaaGreatDoor
open Go.RowKit

theorem winB_sorted (k : Ky) : winB k = (sortedB [0, k.af, k.sf, k.su, k.au, 1099511627776] && decide (k.af < k.au)) := by
  rw [Bool.eq_iff_iff, winB, decide_eq_true_iff, Bool.and_eq_true, decide_eq_true_iff]
  simp only [sortedB, Bool.and_eq_true, decide_eq_true_iff, Bool.and_true]
  omega
theorem kyE_word {pre : List Ky} {k : Ky} (h : wordS k.id = false) : kyE pre k = 5 := by rw [kyE, if_neg (by rw [h]; decide)]
theorem kyE_clean {pre : List Ky} {k : Ky} (h : wordS k.id = true) (h1 : cleanS k.sec = false) : kyE pre k = 4 := by rw [kyE, if_pos h, if_neg (by rw [h1]; decide)]
theorem kyE_twice {pre : List Ky} {k : Ky} (h : wordS k.id = true) (h1 : cleanS k.sec = true) (h2 : hasK pre k.id = true) : kyE pre k = 7 := by rw [kyE, if_pos h, if_pos h1, if_pos h2]
theorem kyE_win {pre : List Ky} {k : Ky} (h : wordS k.id = true) (h1 : cleanS k.sec = true) (h2 : hasK pre k.id = false) (h3 : winB k = false) : kyE pre k = 2 := by rw [kyE, if_pos h, if_pos h1, if_neg (by rw [h2]; decide), if_neg (by rw [h3]; decide)]
set_option linter.unusedSimpArgs false in
set_option maxHeartbeats 8000000 in
set_option maxRecDepth 100000 in
theorem checkKey_any (l : List Ky) (A : Option Addr) (c i : Nat) (hi : i < l.length) (w : World) (hS : KysAt w A l) (hlc : l.length ≤ c) (hl : l.length ≤ 16) (hin : KyIn l[i]) :
    Calls Tryz.prog 80 #[.slice A l.length c, .int .i64 i] w fun e w' => e = .returned (.int .i64 (kyE (l.take i) l[i])) ∧ Below w.heap.size w w' := by
  have HFD := Lib.hid (fun (w' : World) (hb : Below w.heap.size w w') (id : ByteArray) => find_any (l.take i) A c id w' ((hS.take i).below hb) (by rw [List.length_take]; omega))
  have hln : (l.take i).length = i := by rw [List.length_take]; omega
  rw [hln] at HFD
  obtain ⟨b, o, rfl, hat⟩ := hS.at i hi
  have HAT : Hid (KyAt w b (o + i * 6) l[i]) := Lib.hid hat
  have HFC := Lib.hid (fun id => findI_cases (l.take i) id)
  have HIN := Lib.hid hin
  have HE1 := Lib.hid (@kyE_word (l.take i) l[i])
  have HE2 := Lib.hid (@kyE_clean (l.take i) l[i])
  have HE3 := Lib.hid (@kyE_twice (l.take i) l[i])
  have HE4 := Lib.hid (@kyE_win (l.take i) l[i])
  have HE5 := Lib.hid (@kyE_mk (l.take i) l[i])
  obtain ⟨x, HX⟩ : ∃ x, Hid (l[i] = x) := ⟨_, Lib.hid rfl⟩
  rw [HX.out] at HAT HIN HE1 HE2 HE3 HE4 HE5
  rw [HX.out]
  obtain ⟨P, HP⟩ : ∃ P, Hid (l.take i = P) := ⟨_, Lib.hid rfl⟩
  rw [HP.out] at HFD HFC HE1 HE2 HE3 HE4 HE5
  rw [HP.out]
  clear hat hS hin hln
  have Z1 : Hid (KyBox (w.alloc (kyO ky0)) w.heap.size ky0) := Lib.hid (KyBox.new w ky0)
  have X1 : Hid (KyBox ((w.alloc (kyO ky0)).setRow w.heap.size (kyA x)) w.heap.size x) := Lib.hid Z1.out.set
  have B1 : Hid (Below w.heap.size w ((w.alloc (kyO ky0)).setRow w.heap.size (kyA x))) := Lib.hid (below_ky w ky0 x)
  obtain ⟨g, HG⟩ : ∃ g, Hid (w.heap.size = g) := ⟨_, Lib.hid rfl⟩
  have i0 : (0 : Int) ≤ (i : Int) := by omega
  have i1 : (i : Int) < (l.length : Int) := by omega
  have i2 : (i : Int) ≤ (l.length : Int) := by omega
  have i3 : (i : Int) ≤ (c : Int) := by omega
  obtain ⟨s0, q1, q2, q3, q4, q5⟩ := X1.out.cells
  obtain ⟨W1, HW1⟩ : ∃ W, Hid (((w.alloc (kyO ky0)).setRow w.heap.size (kyA x)) = W) := ⟨_, Lib.hid rfl⟩
  rw [HW1.out, HG.out] at s0 q1 q2 q3 q4 q5 X1
  rw [HW1.out] at B1
  have HS0 := Lib.hid s0
  have hs0 := HIN.out.s0
  have hs1 := HIN.out.s1
  go_enter Tryz.func80, Tryz.ntmps80
  go_wp2_with (first
    | (refine load_kyAt rfl _ rfl _ rfl b (o + i * 6) rfl x HAT ?_)
    | (refine alloc_ky rfl _ rfl rfl ?_)
    | (refine store_ky rfl _ rfl _ _ rfl w.heap.size rfl x rfl ky0 Z1 ?_; rw [HW1.out, HG.out])
    | fail)
  clear Z1 HAT HW1
  refine (word_any x.id W1 hs0).mono ?_
  rintro e wsame ⟨rfl, rfl⟩
  cases hw : wordS x.id with
  | false =>
    have HV := Lib.hid (HE1.out hw)
    clear hw HE2 HE3 HE4 HE5
    go_wp2_with fail
    go_ret
    exact ⟨ret_int HV.out.symm, B1.out⟩
  | true =>
    have HWT := Lib.hid hw
    clear hw HE1
    go_wp2_with fail
    refine (clean_any x.sec W1 hs1).mono ?_
    rintro e w2 ⟨rfl, hb2⟩
    have B2 := Lib.hid (bthen B1.out hb2)
    have X2 := Lib.hid (X1.out.below hb2)
    clear hb2 s0 q1 q2 q3 q4 q5 HS0 X1
    cases hc : cleanS x.sec with
    | false =>
      have HV := Lib.hid (HE2.out HWT.out hc)
      clear hc HE3 HE4 HE5
      go_wp2_with fail
      go_ret
      exact ⟨ret_int HV.out.symm, B2.out⟩
    | true =>
      have HCT := Lib.hid hc
      clear hc HE2
      obtain ⟨s0, q1, q2, q3, q4, q5⟩ := X2.out.cells
      have B2d := Lib.hid B2.out.drew
      go_wp2_with fail
      have HF2 := Lib.hid (HFD.out w2.drew B2d.out x.id)
      have hgl : g < w2.drew.heap.size := X2.out.lt
      rcases HFC.out x.id with ⟨hf, hh, _⟩ | ⟨j, hj, hf, hh, _⟩
      · rw [hf] at HF2
        have HHF := Lib.hid hh
        clear hf hh
        go_region_held3 (fun w' => w'.cell? ⟨g, 0, none⟩ = some (.string x.id)) (first | go_keep | (exact (hb3.cell (p := ⟨g, 0, none⟩) hgl).trans s0) | (exact s0))
          (first | (go_at_call 61; refine (Calls.mono HF2.out ?_); rintro e w3 ⟨rfl, hb3⟩))
        have B3 := Lib.hid (bthen B2d.out hb3)
        have X3 := Lib.hid (X2.out.below (((Below.refl _ _).drew).trans hb3))
        have hz3 : w.heap.size ≤ w3.heap.size := B3.out.size
        clear hb3 s0 q1 q2 q3 q4 q5 X2 B2 B2d HF2 HFD HFC hgl
        obtain ⟨s0, q1, q2, q3, q4, q5⟩ := X3.out.cells
        have HSO := Lib.hid (sorted_any [0, x.af, x.sf, x.su, x.au, 1099511627776] w3.heap.size 6 (w3.alloc (.cells #[.int .i64 0, .int .i64 x.af, .int .i64 x.sf, .int .i64 x.su, .int .i64 x.au, .int .i64 1099511627776] 3)) (fun j hj => by
          rw [cell_of_row _ _ j _ _ (0, 0) (heap_alloc_new w3 _)]
          have hj : j < 6 := hj
          rcases j with _|_|_|_|_|_|j <;> first | omega | rfl) (by simp) (by simp))
        have B4 : Hid (Below w.heap.size w (w3.alloc (.cells #[.int .i64 0, .int .i64 x.af, .int .i64 x.sf, .int .i64 x.su, .int .i64 x.au, .int .i64 1099511627776] 3))) := Lib.hid (B3.out.alloc hz3 _)
        have X4 := Lib.hid (X3.out.below ((Below.refl w3.heap.size w3).alloc (Nat.le_refl _) (.cells #[.int .i64 0, .int .i64 x.af, .int .i64 x.sf, .int .i64 x.su, .int .i64 x.au, .int .i64 1099511627776] 3)))
        have HWB := Lib.hid (winB_sorted x)
        cases hso : sortedB [0, x.af, x.sf, x.su, x.au, 1099511627776] with
        | false =>
          rw [hso] at HSO HWB
          have HV := Lib.hid (HE4.out HWT.out HCT.out HHF.out (by rw [HWB.out]; rfl))
          clear hso HE3 HE4 HE5
          go_wp2_with fail
          refine (Calls.mono HSO.out ?_)
          rintro e w5 ⟨rfl, hb5⟩
          have B5 := Lib.hid (bthen B4.out hb5)
          clear hb5
          go_wp2_with fail
          go_ret
          exact ⟨ret_int HV.out.symm, B5.out⟩
        | true =>
          rw [hso] at HSO HWB
          clear hso HE3
          go_wp2_with fail
          refine (Calls.mono HSO.out ?_)
          rintro e w5 ⟨rfl, hb5⟩
          have B5 := Lib.hid (bthen B4.out hb5)
          have X5 := Lib.hid (X4.out.below hb5)
          clear hb5 s0 q1 q2 q3 q4 q5
          obtain ⟨s0, q1, q2, q3, q4, q5⟩ := X5.out.cells
          by_cases hlt : x.af < x.au
          · have HV := Lib.hid (HE5.out HWT.out HCT.out HHF.out (by rw [HWB.out, decide_eq_true hlt]; rfl))
            have h1 : ¬ x.au ≤ x.af := by omega
            go_wp2_with fail
            go_ret
            exact ⟨ret_int HV.out.symm, B5.out⟩
          · have HV := Lib.hid (HE4.out HWT.out HCT.out HHF.out (by rw [HWB.out, decide_eq_false hlt]; rfl))
            have h1 : x.au ≤ x.af := by omega
            go_wp2_with fail
            go_ret
            exact ⟨ret_int HV.out.symm, B5.out⟩
      · rw [hf] at HF2
        have HV := Lib.hid (HE3.out HWT.out HCT.out hh)
        clear hf hh
        have j0 : (0 : Int) ≤ (j : Int) := by omega
        go_region_held3 (fun w' => w'.cell? ⟨g, 0, none⟩ = some (.string x.id)) (first | go_keep | (exact (hb3.cell (p := ⟨g, 0, none⟩) hgl).trans s0) | (exact s0))
          (first | (go_at_call 61; refine (Calls.mono HF2.out ?_); rintro e w3 ⟨rfl, hb3⟩))
        have B3 := Lib.hid (bthen B2d.out hb3)
        go_wp2_with fail
        go_ret
        exact ⟨ret_int HV.out.symm, B3.out⟩
end Go.Proofs.YtiiioefjdebggaaGreatDoor

/- keys.Check over the ring. -/
namespace Go.Proofs.YtiiioefjdebggaaGreatDoor
open Go.RowKit

set_option maxHeartbeats 2000000 in
theorem kcheck_any (l : List Ky) (A : Option Addr) (c : Nat) (w : World) (hS : KysAt w A l) (hlc : l.length ≤ c) (hl : l.length ≤ 9223372036854775807) (hin : ∀ x ∈ l, KyIn x) :
    Calls Tryz.prog 37 #[.slice A l.length c] w fun e w' => e = .returned (.int .i64 (keysE l)) ∧ Below w.heap.size w w' := by
  by_cases h16 : 16 < l.length
  · have HV : Hid (keysE l = 3) := Lib.hid (by rw [keysE, if_pos h16])
    go_enter Tryz.func37, Tryz.ntmps37
    go_wp2_with fail
    go_ret
    exact ⟨ret_int HV.out.symm, Below.refl _ _⟩
  · have HV : Hid (keysE l = kysF [] l) := Lib.hid (by rw [keysE, if_neg h16])
    have HS := Lib.hid hS
    have HI := Lib.hid hin
    have hl16 : l.length ≤ 16 := by omega
    clear hS hin h16
    go_enter Tryz.func37, Tryz.ntmps37
    go_wp2_with fail
    go_loopw [3, 4, 10] (fun _ _ i wr => ∃ k : Nat, k ≤ l.length ∧ i = .int .i64 k ∧ Hid (KysLoop l k) ∧ Hid (Below w.heap.size w wr)) (fun _ _ i _ => l.length - (intOf i).toNat)
    case atStart => exact ⟨0, Nat.zero_le _, rfl, Lib.hid (KysLoop.zero l), Lib.hid (Below.refl _ _)⟩
    case round =>
      obtain ⟨k, hk, rfl, HL, BR⟩ := hrel
      by_cases hlt : k < l.length
      · have HC := Lib.hid (checkKey_any l A c k hlt wr (HS.out.below BR.out) hlc hl16 (HI.out _ (List.getElem_mem hlt)))
        have HB := Lib.hid (HL.out.bad hlt)
        have HN := Lib.hid (HL.out.next hlt)
        obtain ⟨E, HE⟩ : ∃ E, Hid (kyE (l.take k) l[k] = E) := ⟨_, Lib.hid rfl⟩
        rw [HE.out] at HC HB HN
        go_wp2_with fail
        refine (Calls.mono HC.out ?_)
        rintro e w2 ⟨rfl, hb2⟩
        have B2 := Lib.hid (bthen BR.out hb2)
        clear hb2 HC
        by_cases h0 : E = 0
        · have HX := Lib.hid (HN.out h0)
          have h1 : (E == 0) = true := by rw [h0]; rfl
          subst h0
          go_wp2_with fail
          go_roundw
          case rel => exact ⟨k + 1, hlt, by go_num, HX, B2⟩
          case measure => simp [intOf]; omega
        · have HX := Lib.hid (HB.out h0)
          have h1 : (E == 0) = false := by simpa using h0
          clear h0
          go_wp2_with fail
          go_ret
          exact ⟨ret_int (by rw [HV.out, HX.out]), B2.out⟩
      · obtain rfl : k = l.length := by omega
        go_wp2_with fail
        go_ret
        exact ⟨ret_int (by rw [HV.out, HL.out.done]), BR.out⟩
end Go.Proofs.YtiiioefjdebggaaGreatDoor

/- Windows: clock.In and its reference; keys.limited; identityref04.Add. -/
namespace Go.Proofs.YtiiioefjdebggaaGreatDoor
open Go.RowKit

theorem klimited_any (t : Int) (w : World) :
    Calls Tryz.prog 76 #[.int .i64 t] w fun e w' => e = .returned (.int .i64 (limT t)) ∧ w = w' := by
  go_enter Tryz.func76, Tryz.ntmps76
  go_wp2_with fail
  all_goals
    go_ret
    exact ⟨ret_int (by unfold limT; omega), rfl⟩
theorem inW_form {f u t m : Int} (h : limT t = m) : inW f u t = (decide (f ≤ m) && decide (m < u)) := by
  rw [inW, h, Bool.decide_and]
set_option maxHeartbeats 2000000 in
theorem cin_any (f u t : Int) (w : World) :
    Calls Tryz.prog 82 #[.agg #[.int .i64 f, .int .i64 u], .int .i64 t] w fun e w' => e = .returned (.bool (inW f u t)) ∧ Below w.heap.size w w' := by
  obtain ⟨m, HM⟩ : ∃ m, Hid (limT t = m) := ⟨_, Lib.hid rfl⟩
  have HV := Lib.hid (inW_form (f := f) (u := u) HM.out)
  obtain ⟨V, HW⟩ : ∃ V, Hid (inW f u t = V) := ⟨_, Lib.hid rfl⟩
  rw [HW.out] at HV
  rw [HW.out]
  have HB : Hid (Below w.heap.size w (w.alloc (.cells #[.int .i64 f, .int .i64 u] 43))) := Lib.hid ((Below.refl _ _).alloc (Nat.le_refl _) _)
  by_cases h1 : f ≤ m
  · by_cases h2 : m < u
    · have hG : Hid (V = true) := Lib.hid (HV.out.trans (by rw [decide_eq_true h1, decide_eq_true h2]; rfl))
      clear HV
      go_enter Tryz.func82, Tryz.ntmps82
      go_wp2_with fail
      refine (climited_any t _).mono ?_
      rintro e wsame ⟨rfl, rfl⟩
      rw [HM.out]
      go_wp2_with fail
      go_ret
      exact ⟨ret_bool (hG.out.trans (by simp; try omega)).symm, HB.out⟩
    · have hG : Hid (V = false) := Lib.hid (HV.out.trans (by rw [decide_eq_true h1, decide_eq_false h2]; rfl))
      clear HV
      go_enter Tryz.func82, Tryz.ntmps82
      go_wp2_with fail
      refine (climited_any t _).mono ?_
      rintro e wsame ⟨rfl, rfl⟩
      rw [HM.out]
      go_wp2_with fail
      go_ret
      exact ⟨ret_bool (hG.out.trans (by simp; try omega)).symm, HB.out⟩
  · have hG : Hid (V = false) := Lib.hid (HV.out.trans (by rw [decide_eq_false h1]; rfl))
    clear HV
    go_enter Tryz.func82, Tryz.ntmps82
    go_wp2_with fail
    refine (climited_any t _).mono ?_
    rintro e wsame ⟨rfl, rfl⟩
    rw [HM.out]
    go_wp2_with fail
    go_ret
    exact ⟨ret_bool hG.out.symm, HB.out⟩
set_option linter.unusedSimpArgs false in
set_option maxHeartbeats 2000000 in
theorem rin_any (f u t : Int) (w : World) :
    Calls Tryz.prog 92 #[.agg #[.int .i64 f, .int .i64 u], .int .i64 t] w fun e w' => e = .returned (.bool (inW f u t)) ∧ Below w.heap.size w w' := by
  obtain ⟨m, HM⟩ : ∃ m, Hid (limT t = m) := ⟨_, Lib.hid rfl⟩
  have HV := Lib.hid (inW_form (f := f) (u := u) HM.out)
  obtain ⟨V, HW⟩ : ∃ V, Hid (inW f u t = V) := ⟨_, Lib.hid rfl⟩
  rw [HW.out] at HV
  rw [HW.out]
  have HB : Hid (Below w.heap.size w (w.alloc (.cells #[.int .i64 f, .int .i64 u] 43))) := Lib.hid ((Below.refl _ _).alloc (Nat.le_refl _) _)
  by_cases h1 : f ≤ m
  · by_cases h2 : m < u
    · have hG : Hid (V = true) := Lib.hid (HV.out.trans (by rw [decide_eq_true h1, decide_eq_true h2]; rfl))
      clear HV
      go_enter Tryz.func92, Tryz.ntmps92
      go_wp2_with fail
      go_quiet ((go_at_call 133; first | exact quiet_lim2 HM.out | exact quiet_lim HM.out))
      go_wp2_with fail
      go_ret
      exact ⟨ret_bool (hG.out.trans (by simp; try omega)).symm, below_drewN' HB.out _⟩
    · have hG : Hid (V = false) := Lib.hid (HV.out.trans (by rw [decide_eq_true h1, decide_eq_false h2]; rfl))
      clear HV
      go_enter Tryz.func92, Tryz.ntmps92
      go_wp2_with fail
      go_quiet ((go_at_call 133; first | exact quiet_lim2 HM.out | exact quiet_lim HM.out))
      go_wp2_with fail
      go_ret
      exact ⟨ret_bool (hG.out.trans (by simp; try omega)).symm, below_drewN' HB.out _⟩
  · have hG : Hid (V = false) := Lib.hid (HV.out.trans (by rw [decide_eq_false h1]; rfl))
    clear HV
    have hc0 : (w.alloc (.cells #[.int .i64 f, .int .i64 u] 43)).drew.cell? ⟨w.heap.size, 0, none⟩ = some (.int .i64 f) := cell_of_row _ _ 0 _ _ (0, 0) (heap_alloc_new w _)
    have hc1 : (w.alloc (.cells #[.int .i64 f, .int .i64 u] 43)).drew.cell? ⟨w.heap.size, 1, none⟩ = some (.int .i64 u) := cell_of_row _ _ 1 _ _ (0, 0) (heap_alloc_new w _)
    have hd : decide (f ≤ m) = false := decide_eq_false h1
    go_enter Tryz.func92, Tryz.ntmps92
    go_wp2_with fail
    refine wp_region_held_drew (S := fun w' => w'.cell? ⟨w.heap.size, 0, none⟩ = some (.int .i64 f) ∧ w'.cell? ⟨w.heap.size, 1, none⟩ = some (.int .i64 u)) (by kernel_rfl) ?_ (fun hHeld => ?_)
    · (first | exact hHeld | exact ⟨hc0, hc1⟩)
    refine wpAnyH_take (i := 0) (oi := _) (v := ?_) rfl (by kernel_rfl) (by kernel_rfl) (by kernel_rfl) (fun _ _ _ h => h) (Or.inl ⟨by rfl, ?_⟩) (by assumption) ?_
    rotate_left
    · (intro w hSw; (try dsimp only at hSw); go_simp; try with_reducible rfl)
    try simp only [List.getElem_toArray, List.getElem_cons_succ, List.getElem_cons_zero, Act.put, List.setIfInBounds_toArray, List.set_cons_zero, List.set_cons_succ]
    refine wpAnyH_take (i := 1) (oi := _) (v := ?_) rfl (by kernel_rfl) (by kernel_rfl) (by kernel_rfl) (fun _ _ _ h => h) (Or.inl ⟨by rfl, ?_⟩) (by assumption) ?_
    rotate_left
    · (intro w hSw; (try dsimp only at hSw); go_simp; try with_reducible rfl)
    try simp only [List.getElem_toArray, List.getElem_cons_succ, List.getElem_cons_zero, Act.put, List.setIfInBounds_toArray, List.set_cons_zero, List.set_cons_succ]
    refine wpAnyH_take (i := 2) (oi := _) (v := ?_) rfl (by kernel_rfl) (by kernel_rfl) (by kernel_rfl) (fun _ _ _ h => h) (Or.inl ⟨by rfl, ?_⟩) (by assumption) ?_
    rotate_left
    · (intro w hSw; (try dsimp only at hSw); go_simp; try with_reducible rfl)
    try simp only [List.getElem_toArray, List.getElem_cons_succ, List.getElem_cons_zero, Act.put, List.setIfInBounds_toArray, List.set_cons_zero, List.set_cons_succ]
    refine wpAnyH_ready (rs := [3]) (by kernel_rfl) (by simp) ?_
    refine AllReadyH.cons (o := _) rfl (fun K hK => ?_) AllReadyH.nil
    go_simp
    (go_at_call 133; refine (rlimit_any t _).mono ?_; rintro e wsame ⟨rfl, rfl⟩; rw [HM.out])
    clear hHeld
    refine hK.out _ _ ?_ (fun hHeld => ?_)
    · (try dsimp only); (first | exact hHeld | exact ⟨hc0, hc1⟩)
    clear hK K
    try simp only [List.getElem_toArray, List.getElem_cons_succ, List.getElem_cons_zero, Act.put, List.setIfInBounds_toArray, List.set_cons_zero, List.set_cons_succ]
    refine wpAnyH_take (i := 4) (oi := _) (v := ?_) rfl (by kernel_rfl) (by kernel_rfl) (by kernel_rfl) (fun _ _ _ h => h) (Or.inl ⟨by rfl, ?_⟩) (by assumption) ?_
    rotate_left
    · (intro w hSw; (try dsimp only at hSw); go_simp; try with_reducible rfl)
    try simp only [List.getElem_toArray, List.getElem_cons_succ, List.getElem_cons_zero, Act.put, List.setIfInBounds_toArray, List.set_cons_zero, List.set_cons_succ]
    refine wpAnyH_take (i := 5) (oi := _) (v := ?_) rfl (by kernel_rfl) (by kernel_rfl) (by kernel_rfl) (fun _ _ _ h => h) (Or.inl ⟨by rfl, ?_⟩) (by assumption) ?_
    rotate_left
    · (intro w hSw; (try dsimp only at hSw); go_simp; try with_reducible rfl)
    try simp only [List.getElem_toArray, List.getElem_cons_succ, List.getElem_cons_zero, Act.put, List.setIfInBounds_toArray, List.set_cons_zero, List.set_cons_succ]
    refine wpAnyH_take (i := 6) (oi := _) (v := undef) rfl (by kernel_rfl) (by kernel_rfl) (by kernel_rfl) (fun _ _ _ h => h) (Or.inr ⟨by rfl, rfl⟩) (by assumption) ?_
    try simp only [List.getElem_toArray, List.getElem_cons_succ, List.getElem_cons_zero, Act.put, List.setIfInBounds_toArray, List.set_cons_zero, List.set_cons_succ]
    refine wpAnyH_take (i := 8) (oi := _) (v := undef) rfl (by kernel_rfl) (by kernel_rfl) (by kernel_rfl) (fun _ _ _ h => h) (Or.inr ⟨by rfl, rfl⟩) (by assumption) ?_
    try simp only [List.getElem_toArray, List.getElem_cons_succ, List.getElem_cons_zero, Act.put, List.setIfInBounds_toArray, List.set_cons_zero, List.set_cons_succ]
    refine wpAnyH_take (i := 9) (oi := _) (v := undef) rfl (by kernel_rfl) (by kernel_rfl) (by kernel_rfl) (fun _ _ _ h => h) (Or.inr ⟨by rfl, rfl⟩) (by assumption) ?_
    try simp only [List.getElem_toArray, List.getElem_cons_succ, List.getElem_cons_zero, Act.put, List.setIfInBounds_toArray, List.set_cons_zero, List.set_cons_succ]
    refine wpAnyH_take (i := 7) (oi := _) (v := undef) rfl (by kernel_rfl) (by kernel_rfl) (by kernel_rfl) (fun _ _ _ h => h) (Or.inr ⟨by rfl, rfl⟩) (by assumption) ?_
    try simp only [List.getElem_toArray, List.getElem_cons_succ, List.getElem_cons_zero, Act.put, List.setIfInBounds_toArray, List.set_cons_zero, List.set_cons_succ]
    refine wpAnyH_take (i := 10) (oi := _) (v := undef) rfl (by kernel_rfl) (by kernel_rfl) (by kernel_rfl) (fun _ _ _ h => h) (Or.inr ⟨by rfl, rfl⟩) (by assumption) ?_
    try simp only [List.getElem_toArray, List.getElem_cons_succ, List.getElem_cons_zero, Act.put, List.setIfInBounds_toArray, List.set_cons_zero, List.set_cons_succ]
    refine wpAnyH_take (i := 11) (oi := _) (v := ?_) rfl (by kernel_rfl) (by kernel_rfl) (by kernel_rfl) (fun _ _ _ h => h) (Or.inl ⟨by rfl, ?_⟩) (by assumption) ?_
    rotate_left
    · (intro w hSw; (try dsimp only at hSw); go_simp; try with_reducible rfl)
    try simp only [List.getElem_toArray, List.getElem_cons_succ, List.getElem_cons_zero, Act.put, List.setIfInBounds_toArray, List.set_cons_zero, List.set_cons_succ]
    refine wpAnyH_take (i := 12) (oi := _) (v := ?_) rfl (by kernel_rfl) (by kernel_rfl) (by kernel_rfl) (fun _ _ _ h => h) (Or.inl ⟨by rfl, ?_⟩) (by assumption) ?_
    rotate_left
    · (intro w hSw; (try dsimp only at hSw); go_simp; try with_reducible rfl)
    try simp only [List.getElem_toArray, List.getElem_cons_succ, List.getElem_cons_zero, Act.put, List.setIfInBounds_toArray, List.set_cons_zero, List.set_cons_succ]
    refine wpAnyH_done (by kernel_rfl) ?_ _
    go_wp2_with fail
    go_ret
    exact ⟨ret_bool hG.out.symm, HB.out.drew⟩
end Go.Proofs.YtiiioefjdebggaaGreatDoor

/- keys.Signing. -/
namespace Go.Proofs.YtiiioefjdebggaaGreatDoor
open Go.RowKit

theorem ky_guard : Tryz.prog.eqGuardType Tryz.prog.depth 45 = false := by kernel_rfl
theorem ky_beq0 (w : World) : (Op.equalIn 10000 45 (kyV ky0) (kyV ky0)).run Tryz.prog w = .ok true w := by
  have u3 := Tryz.underlying3
  have u9 := Tryz.underlying9
  have uw := Tryz.underlying43
  have hS : Tryz.prog.underlying 45 = some (.struct (Tryz.prog.fieldsOf 45)) := by kernel_rfl
  have hp : Tryz.prog.stoodInHeld 45 = false := by kernel_rfl
  have hSw : Tryz.prog.underlying 43 = some (.struct (Tryz.prog.fieldsOf 43)) := by kernel_rfl
  have hpw : Tryz.prog.stoodInHeld 43 = false := by kernel_rfl
  rw [kyV, show (10000 : Nat) = 9999 + 1 from rfl, run_equalIn_agg w 9999 45 _ _ hS hp]
  simp only [Program.fieldsOf, Tryz.underlying45]
  go_simp
theorem ky_bne0 (x : Ky) (h : x.id ≠ ByteArray.empty) (w : World) : (Op.equalIn 10000 45 (kyV x) (kyV ky0)).run Tryz.prog w = .ok false w := by
  have u3 := Tryz.underlying3
  have u9 := Tryz.underlying9
  have uw := Tryz.underlying43
  have hS : Tryz.prog.underlying 45 = some (.struct (Tryz.prog.fieldsOf 45)) := by kernel_rfl
  have hp : Tryz.prog.stoodInHeld 45 = false := by kernel_rfl
  have hSw : Tryz.prog.underlying 43 = some (.struct (Tryz.prog.fieldsOf 43)) := by kernel_rfl
  have hpw : Tryz.prog.stoodInHeld 43 = false := by kernel_rfl
  have h1 : ¬ x.id.toList = ky0.id.toList := fun e => h (toList_inj e)
  rw [kyV, kyV, show (10000 : Nat) = 9999 + 1 from rfl, run_equalIn_agg w 9999 45 _ _ hS hp]
  simp only [Program.fieldsOf, Tryz.underlying45]
  go_simp
theorem ky_quiet (op : BinOp) (x y : Operand) (a b : Ky) (w : World) : (eqGuard op 45 x y (kyV a) (kyV b)).run Tryz.prog w = .ok () w 
    := run_eqGuard_agg w op 45 x y _ _ ky_guard
theorem ky_eq0 (w : World) : (binOp .eql 45 (kyV ky0) (kyV ky0)).run Tryz.prog w = .ok (.bool true) w := by
  have h := ky_beq0 w
  rw [kyV] at h ⊢
  rw [run_eql_struct, h]; rfl
theorem ky_neq0 (w : World) : (binOp .neq 45 (kyV ky0) (kyV ky0)).run Tryz.prog w = .ok (.bool false) w := by
  have h := ky_beq0 w
  rw [kyV] at h ⊢
  rw [run_neq_struct, h]; rfl
theorem ky_eq1 (x : Ky) (hx : x.id ≠ ByteArray.empty) (w : World) : (binOp .eql 45 (kyV x) (kyV ky0)).run Tryz.prog w = .ok (.bool false) w := by
  have h := ky_bne0 x hx w
  rw [kyV, kyV] at h ⊢
  rw [run_eql_struct, h]; rfl
theorem ky_neq1 (x : Ky) (hx : x.id ≠ ByteArray.empty) (w : World) : (binOp .neq 45 (kyV x) (kyV ky0)).run Tryz.prog w = .ok (.bool true) w := by
  have h := ky_bne0 x hx w
  rw [kyV, kyV] at h ⊢
  rw [run_neq_struct, h]; rfl
theorem word_full {s : ByteArray} (h : wordS s = true) : s ≠ ByteArray.empty := by
  rintro rfl
  revert h
  decide
/-- The best of the first k keys. -/
theorem sig_next {l : List Ky} {t : Int} {k : Nat} (hk : k < l.length) {o : Option Ky} (ho : sigF t (l.take k) = o) :
    (inW l[k].sf l[k].su t = false → sigF t (l.take (k + 1)) = o) ∧ (inW l[k].sf l[k].su t = true → (o = none → sigF t (l.take (k + 1)) = some l[k]) ∧ ∀ b, o = some b → (betK b l[k] = true → sigF t (l.take (k + 1)) = some l[k]) ∧ (betK b l[k] = false → sigF t (l.take (k + 1)) = some b)) := by
  rw [sigF_snoc t l hk, ho]
  refine ⟨fun h => by rw [sigStep, if_neg (by rw [h]; decide)], fun h => ⟨fun e => by rw [sigStep, if_pos h, e]; rfl, fun b e => ?_⟩⟩
  rw [sigStep, if_pos h, e]
  exact ⟨fun hb => by rw [sigPick, if_pos hb], fun hb => by rw [sigPick, if_neg (by rw [hb]; decide)]⟩
theorem bet_cases (b k : Ky) : (betK b k = true ∧ (b.sf < k.sf ∨ (b.sf = k.sf ∧ ordB b.id k.id = true))) ∨ (betK b k = false ∧ (k.sf < b.sf ∨ (b.sf = k.sf ∧ ordB b.id k.id = false))) := by
  by_cases h1 : b.sf < k.sf
  · exact .inl ⟨by rw [betK, decide_eq_true h1]; rfl, .inl h1⟩
  · by_cases h2 : b.sf = k.sf
    · cases h3 : ordB b.id k.id with
      | true => exact .inl ⟨by rw [betK, h3, decide_eq_true h2, Bool.or_eq_true]; exact .inr rfl, .inr ⟨h2, rfl⟩⟩
      | false => exact .inr ⟨by rw [betK, h3, decide_eq_false h1, Bool.and_false]; rfl, .inr ⟨h2, rfl⟩⟩
    · exact .inr ⟨by rw [betK, decide_eq_false h1, decide_eq_false h2]; rfl, .inl (by omega)⟩
section
variable {ops : Array Oper} {o : Oper} {a : Act} {w : World} {K : Act → World → Prop} {Q : Exit → Act → World → Prop} {E : Prop}
theorem run_load_ky (b : Nat) (k : Ky) (w : World) (h : KyBox w b k) : (Instr.loadAt 45 (.pointer (some ⟨b, 0, none⟩))).run Tryz.prog w = .ok (kyV k) w := by
  simp only [Instr.loadAt, Instr.sureAddr, Sem.run_bind, Sem.run_pure, Result.andThen_ok]
  exact run_loadVar_row w b 45 45 (kyA k) (0, 0) _ h Tryz.underlying45 rfl (by rw [kyA_size]; exact ky_size)
theorem yields_load_ky {S : World → Prop} (hw : Region.wanted o (yielded ops a.tmps) = true) (x : Operand) (ho : o.op = .load 45 x) (b : Nat) (hx : a.eval x = .pointer (some ⟨b, 0, none⟩)) (k : Ky) (hS : ∀ w, S w → KyBox w b k) : YieldsIf Tryz.prog ops S o (kyV k) a :=
  .inl ⟨hw, fun w hw' => by
    unfold execOp
    simp only [ho, hx, Sem.run_bind, Sem.run_pure, run_load_ky b k w (hS w hw'), Result.andThen_ok]⟩
theorem yields_build_ky {S : World → Prop} (hw : Region.wanted o (yielded ops a.tmps) = true) (ho : o.op = .build 45 #[]) : YieldsIf Tryz.prog ops S o (kyV ky0) a :=
  .inl ⟨hw, fun w _ => by
    unfold execOp
    simp only [ho]
    go_simp
    rfl⟩
theorem step_store_ky (hg : o.guard = none) (x y : Operand) (ho : o.op = .store 45 x y) (b : Nat) (hx : a.eval x = .pointer (some ⟨b, 0, none⟩)) (k : Ky) (hy : a.eval y = kyV k) (k0 : Ky) (hX : KyBox w b k0) (h : K (a.put o.dst undef) (w.setRow b (kyA k))) :
    if Region.wanted o (yielded ops a.tmps) = true then Oper.wp Tryz.prog o a w K Q else E := by
  have hw : Region.wanted o (yielded ops a.tmps) = true := by simp [Region.wanted, hg]
  rw [if_pos hw]
  exact wp_store_row 45 x y ho b (kyA k) hx hy 45 (kyA k0) hX (by rw [kyA_size]; exact ky_size) rfl (kyA_one k) h
end
theorem res_ky {fn : Func} {r u : Tmp} (h : fn.results = #[.cell r 45, .tmp u]) (tmps : Array Value) (w : World) (b : Nat) (k : Ky) (v : Value) (hr : tmps.getD r undef = .pointer (some ⟨b, 0, none⟩)) (hX : KyBox w b k) (hu : tmps.getD u undef = v) :
    (results fn tmps).run Tryz.prog w = .ok (.tuple #[kyV k, v]) w := by
  rw [results_cell_tmp h, hr, hu]
  have hl : (loadVar 45 ⟨b, 0, none⟩).run Tryz.prog w = .ok (.agg (kyA k)) w := run_loadVar_row w b 45 45 (kyA k) (0, 0) _ hX Tryz.underlying45 rfl (by rw [kyA_size]; exact ky_size)
  simp only [asAddr, Sem.run_pure, Result.andThen_ok, hl]
  rfl
/-- What Signing returns. -/
def sigV (o : Option Ky) : Value := .tuple #[kyV (o.getD ky0), .bool o.isSome]
end Go.Proofs.YtiiioefjdebggaaGreatDoor

/- keys.Signing: the walk. -/
namespace Go.Proofs.YtiiioefjdebggaaGreatDoor
open Go.RowKit

theorem ord_yes {p s : ByteArray} (h : ordB p s = true) : Op.bytesLess s.toList p.toList = false ∧ (s.toList == p.toList) = false ∧ ¬ s.toList = p.toList := by
  have h1 := leq_ord p s
  rw [h, Bool.not_true, Bool.or_eq_false_iff] at h1
  exact ⟨h1.1, h1.2, fun e => by have := h1.2; rw [e] at this; simp at this⟩
theorem ord_no {p s : ByteArray} (h : ordB p s = false) : Op.bytesLess s.toList p.toList = true ∨ (Op.bytesLess s.toList p.toList = false ∧ (s.toList == p.toList) = true ∧ s = p) := by
  have h1 := leq_ord p s
  rw [h, Bool.not_false] at h1
  cases h2 : Op.bytesLess s.toList p.toList with
  | true => exact .inl rfl
  | false =>
    rw [h2, Bool.false_or] at h1
    exact .inr ⟨rfl, h1, toList_inj (by simpa using h1)⟩
set_option linter.unusedSimpArgs false in
set_option maxHeartbeats 8000000 in
set_option maxRecDepth 100000 in
theorem signing_any (l : List Ky) (A : Option Addr) (c : Nat) (t : Int) (w : World) (hS : KysAt w A l) (hlc : l.length ≤ c) (hl : l.length ≤ 9223372036854775807) (hin : ∀ x ∈ l, KyIn x) :
    Calls Tryz.prog 39 #[.slice A l.length c, .int .i64 t] w fun e w' => e = .returned (sigV (sigO l t)) ∧ Below w.heap.size w w' := by
  have hzz : (w.alloc (kyO ky0)).heap.size = w.heap.size + 1 := by simp
  have Z1 : Hid (KyBox ((w.alloc (kyO ky0)).alloc (kyO ky0)) (w.alloc (kyO ky0)).heap.size ky0) := Lib.hid (KyBox.new (w.alloc (kyO ky0)) ky0)
  have R1 : Hid (KyBox ((w.alloc (kyO ky0)).alloc (kyO ky0)) w.heap.size ky0) := Lib.hid ((KyBox.new w ky0).below ((Below.refl _ _).alloc (Nat.le_refl _) _))
  have X1 : Hid (KyBox (((w.alloc (kyO ky0)).alloc (kyO ky0)).setRow (w.alloc (kyO ky0)).heap.size (kyA ky0)) (w.heap.size + 1) ky0) := Lib.hid (by rw [← hzz]; exact Z1.out.set)
  have R2 : Hid (KyBox (((w.alloc (kyO ky0)).alloc (kyO ky0)).setRow (w.alloc (kyO ky0)).heap.size (kyA ky0)) w.heap.size ky0) := Lib.hid (R1.out.other (by omega))
  have B1 : Hid (Below w.heap.size w (((w.alloc (kyO ky0)).alloc (kyO ky0)).setRow (w.alloc (kyO ky0)).heap.size (kyA ky0))) := Lib.hid (below_setRow (((Below.refl _ _).alloc (Nat.le_refl _) _).alloc (by simp) _) (by omega) _)
  clear hzz
  obtain ⟨W1, HW1⟩ : ∃ W, Hid ((((w.alloc (kyO ky0)).alloc (kyO ky0)).setRow (w.alloc (kyO ky0)).heap.size (kyA ky0)) = W) := ⟨_, Lib.hid rfl⟩
  rw [HW1.out] at X1 R2 B1
  have HK := Lib.hid (kcheck_any l A c W1 (hS.below B1.out) hlc hl hin)
  have HS := Lib.hid hS
  have HI := Lib.hid hin
  have HLT := Lib.hid (sigF_lim t l)
  have HSO : Hid (sigO l t = if keysE l = 0 then sigF (limT t) l else none) := Lib.hid (by rw [sigO, sigF_lim])
  obtain ⟨m, HM⟩ : ∃ m, Hid (limT t = m) := ⟨_, Lib.hid rfl⟩
  rw [HM.out] at HSO
  have HML : Hid (limT m = m) := Lib.hid (by rw [← HM.out, limT_twice])
  obtain ⟨E, HE⟩ : ∃ E, Hid (keysE l = E) := ⟨_, Lib.hid rfl⟩
  rw [HE.out] at HSO HK
  obtain ⟨O, HO⟩ : ∃ O, Hid (sigO l t = O) := ⟨_, Lib.hid rfl⟩
  rw [HO.out] at HSO
  rw [HO.out]
  have hq := ky_quiet
  have hq0 := ky_eq0
  have hn0 := ky_neq0
  clear hS hin R1 HLT
  go_enter Tryz.func39, Tryz.ntmps39
  go_upto_region 1 with (first | (refine alloc_ky rfl _ rfl rfl ?_) | fail)
  go_wp2_with fail
  refine (klimited_any t _).mono ?_
  rintro e wsame ⟨rfl, rfl⟩
  rw [HM.out]
  go_upto_region 3 with (first
    | (refine build_ky rfl _ rfl rfl ?_)
    | (refine alloc_ky rfl _ rfl rfl ?_)
    | (refine store_ky rfl _ rfl _ _ rfl (w.alloc (kyO ky0)).heap.size rfl ky0 rfl ky0 Z1 ?_; rw [HW1.out])
    | fail)
  clear Z1 HW1
  go_wp2_with fail
  refine (Calls.mono HK.out ?_)
  rintro e w2 ⟨rfl, hb2⟩
  have B2 := Lib.hid (bthen B1.out hb2)
  have X2 := Lib.hid (X1.out.below hb2)
  have R3 := Lib.hid (R2.out.below hb2)
  clear hb2 HK X1 R2 B1
  by_cases h0 : E = 0
  · have hEb : (E == 0) = true := by rw [h0]; rfl
    have HOF : Hid (O = sigF m l) := Lib.hid (by rw [HSO.out, if_pos h0])
    have HKZ := Lib.hid (keysE_zero (l := l) (by rw [HE.out, h0]))
    subst h0
    clear HSO HE
    go_wp2_with fail
    go_loopw [8, 18] (fun _ i wr => ∃ k : Nat, k ≤ l.length ∧ i = .int .i64 k ∧ Hid (Below w.heap.size w wr) ∧ Hid (KyBox wr (w.heap.size + 1) ((sigF m (l.take k)).getD ky0)) ∧ Hid (KyBox wr w.heap.size ky0)) (fun _ i _ => l.length - (intOf i).toNat)
    case atStart => exact ⟨0, Nat.zero_le _, rfl, B2, X2, R3⟩
    case round =>
      obtain ⟨k, hk, rfl, BR, XR, RR⟩ := hrel
      clear B2 X2 R3
      by_cases hlt : k < l.length
      · obtain ⟨b, o, rfl, hat⟩ := (HS.out.below BR.out).at k hlt
        have HAT := Lib.hid hat
        have HZ3 : Hid (KyBox (wr.alloc (kyO ky0)) wr.heap.size ky0) := Lib.hid (KyBox.new wr ky0)
        have HNX := Lib.hid (sig_next (t := m) hlt rfl)
        have HMB : Hid (∀ b, sigF m (l.take k) = some b → b.id ≠ ByteArray.empty) := Lib.hid (fun b h => by
          obtain ⟨j, hj, hjb⟩ := List.getElem_of_mem (List.mem_of_mem_take (sigF_mem m _ b h))
          have := HKZ.out.2 j hj
          rw [hjb] at this
          exact word_full (kyE_zero this).1)
        obtain ⟨x, HX⟩ : ∃ x, Hid (l[k] = x) := ⟨_, Lib.hid rfl⟩
        rw [HX.out] at HAT HNX
        obtain ⟨sg, HSG⟩ : ∃ o, Hid (sigF m (l.take k) = o) := ⟨_, Lib.hid rfl⟩
        rw [HSG.out] at XR HNX HMB
        clear hat
        have hgb := XR.out.lt
        have hgr := RR.out.lt
        have X3 : Hid (KyBox ((wr.alloc (kyO ky0)).setRow wr.heap.size (kyA x)) wr.heap.size x) := Lib.hid HZ3.out.set
        have XB : Hid (KyBox ((wr.alloc (kyO ky0)).setRow wr.heap.size (kyA x)) (w.heap.size + 1) (sg.getD ky0)) := Lib.hid ((XR.out.below ((Below.refl _ _).alloc (Nat.le_refl _) _)).other (by omega))
        have XC : Hid (KyBox ((wr.alloc (kyO ky0)).setRow wr.heap.size (kyA x)) w.heap.size ky0) := Lib.hid ((RR.out.below ((Below.refl _ _).alloc (Nat.le_refl _) _)).other (by omega))
        have B3 : Hid (Below w.heap.size w ((wr.alloc (kyO ky0)).setRow wr.heap.size (kyA x))) := Lib.hid (bthen BR.out (below_ky wr ky0 x))
        obtain ⟨W3, HW3⟩ : ∃ W, Hid (((wr.alloc (kyO ky0)).setRow wr.heap.size (kyA x)) = W) := ⟨_, Lib.hid rfl⟩
        obtain ⟨g3, HG3⟩ : ∃ g, Hid (wr.heap.size = g) := ⟨_, Lib.hid rfl⟩
        rw [HW3.out, HG3.out] at X3
        rw [HW3.out] at XB XC B3
        have hg3 : w.heap.size + 1 < g3 := by rw [← HG3.out]; exact hgb
        clear hgb hgr
        have k0 : (0 : Int) ≤ (k : Int) := by omega
        have k1 : (k : Int) < (l.length : Int) := by omega
        obtain ⟨p0, p1, p2, p3, p4, p5⟩ := X3.out.cells
        go_upto_region 8 with (first
          | (refine load_kyAt rfl _ rfl _ rfl b (o + k * 6) rfl x HAT ?_)
          | (refine alloc_ky rfl _ rfl rfl ?_)
          | (refine store_ky rfl _ rfl _ _ rfl wr.heap.size rfl x rfl ky0 HZ3 ?_; rw [HW3.out, HG3.out])
          | fail)
        clear HZ3 HAT HW3 HG3 BR XR RR
        go_wp2_with fail
        refine (cin_any x.sf x.su m _).mono ?_
        rintro e w4 ⟨rfl, hb4⟩
        have B4 := Lib.hid (bthen B3.out hb4)
        have X4 := Lib.hid (X3.out.below hb4)
        have XB4 := Lib.hid (XB.out.below hb4)
        have XC4 := Lib.hid (XC.out.below hb4)
        clear hb4 p0 p1 p2 p3 p4 p5 B3 X3 XB XC
        cases hw : inW x.sf x.su m with
        | false =>
          have HN := Lib.hid (HNX.out.1 hw)
          clear hw HNX
          go_wp2_with fail
          go_roundw
          case rel => exact ⟨k + 1, hlt, by go_num, B4, by rw [HN.out]; exact XB4, XC4⟩
          case measure => simp [intOf]; omega
        | true =>
          have HN := Lib.hid (HNX.out.2 hw)
          clear hw HNX
          obtain ⟨p0, p1, p2, p3, p4, p5⟩ := X4.out.cells
          cases sg with
          | none =>
            have HNN := Lib.hid (HN.out.1 rfl)
            clear HN HMB
            replace XB4 : Hid (KyBox w4 (w.heap.size + 1) ky0) := XB4
            have hg0 := ky_guard
            have hbq : ∀ w, (Op.equalIn 10000 45 (.agg #[.string ky0.id, .string ky0.sec, .int .i64 ky0.sf, .int .i64 ky0.su, .int .i64 ky0.af, .int .i64 ky0.au]) (.agg #[.string ⟨#[]⟩, .string ⟨#[]⟩, .int .i64 0, .int .i64 0, .int .i64 0, .int .i64 0])).run Tryz.prog w = .ok true w := ky_beq0
            obtain ⟨r0, r1, r2, r3, r4, r5⟩ := XB4.out.cells
            go_upto_region 9 with fail
            go_upto_region 10 with fail
            have XB5 : Hid (KyBox (w4.setRow (w.heap.size + 1) (kyA x)) (w.heap.size + 1) x) := Lib.hid XB4.out.set
            have XC5 : Hid (KyBox (w4.setRow (w.heap.size + 1) (kyA x)) w.heap.size ky0) := Lib.hid (XC4.out.other (by omega))
            have B5 : Hid (Below w.heap.size w (w4.setRow (w.heap.size + 1) (kyA x))) := Lib.hid (below_setRow B4.out (by omega) _)
            go_wp2_with (first
              | (refine load_ky rfl _ rfl _ rfl g3 rfl x X4 ?_)
              | (refine store_ky rfl _ rfl _ _ rfl (w.heap.size + 1) rfl x rfl ky0 XB4 ?_)
              | fail)
            go_roundw
            case rel => exact ⟨k + 1, hlt, by go_num, B5, by rw [HNN.out]; exact XB5, XC5⟩
            case measure => simp [intOf]; omega
          | some bb =>
            have HN2 := Lib.hid (HN.out.2 bb rfl)
            have hg0 := ky_guard
            have hbq : ∀ w, (Op.equalIn 10000 45 (.agg #[.string bb.id, .string bb.sec, .int .i64 bb.sf, .int .i64 bb.su, .int .i64 bb.af, .int .i64 bb.au]) (.agg #[.string ⟨#[]⟩, .string ⟨#[]⟩, .int .i64 0, .int .i64 0, .int .i64 0, .int .i64 0])).run Tryz.prog w = .ok false w := ky_bne0 bb (HMB.out bb rfl)
            clear HN HMB
            replace XB4 : Hid (KyBox w4 (w.heap.size + 1) bb) := XB4
            obtain ⟨r0, r1, r2, r3, r4, r5⟩ := XB4.out.cells
            rcases bet_cases bb x with ⟨hb, h1 | ⟨h1, h2⟩⟩ | ⟨hb, h1 | ⟨h1, h2⟩⟩
            · have u1 : bb.sf < x.sf := h1
              have HNN := Lib.hid (HN2.out.1 hb)
              clear hb HN2
              go_upto_region 9 with fail
              go_upto_region 10 with fail
              have XB5 : Hid (KyBox (w4.setRow (w.heap.size + 1) (kyA x)) (w.heap.size + 1) x) := Lib.hid XB4.out.set
              have XC5 : Hid (KyBox (w4.setRow (w.heap.size + 1) (kyA x)) w.heap.size ky0) := Lib.hid (XC4.out.other (by omega))
              have B5 : Hid (Below w.heap.size w (w4.setRow (w.heap.size + 1) (kyA x))) := Lib.hid (below_setRow B4.out (by omega) _)
              go_wp2_with (first
              | (refine load_ky rfl _ rfl _ rfl g3 rfl x X4 ?_)
              | (refine store_ky rfl _ rfl _ _ rfl (w.heap.size + 1) rfl x rfl bb XB4 ?_)
              | fail)
              go_roundw
              case rel => exact ⟨k + 1, hlt, by go_num, B5, by rw [HNN.out]; exact XB5, XC5⟩
              case measure => simp [intOf]; omega
            · rw [h1] at hbq r2
              have u1 : ¬ x.sf < x.sf := by omega
              have u2 : (x.sf == x.sf) = true := by simp
              clear h1
              obtain ⟨u3, u4, u5⟩ := ord_yes h2
              clear h2
              have HNN := Lib.hid (HN2.out.1 hb)
              clear hb HN2
              go_upto_region 9 with fail
              go_upto_region 10 with fail
              have XB5 : Hid (KyBox (w4.setRow (w.heap.size + 1) (kyA x)) (w.heap.size + 1) x) := Lib.hid XB4.out.set
              have XC5 : Hid (KyBox (w4.setRow (w.heap.size + 1) (kyA x)) w.heap.size ky0) := Lib.hid (XC4.out.other (by omega))
              have B5 : Hid (Below w.heap.size w (w4.setRow (w.heap.size + 1) (kyA x))) := Lib.hid (below_setRow B4.out (by omega) _)
              go_wp2_with (first
              | (refine load_ky rfl _ rfl _ rfl g3 rfl x X4 ?_)
              | (refine store_ky rfl _ rfl _ _ rfl (w.heap.size + 1) rfl x rfl bb XB4 ?_)
              | fail)
              go_roundw
              case rel => exact ⟨k + 1, hlt, by go_num, B5, by rw [HNN.out]; exact XB5, XC5⟩
              case measure => simp [intOf]; omega
            · have u1 : ¬ bb.sf < x.sf := by omega
              have u2 : (x.sf == bb.sf) = false := by rw [beq_eq_false_iff_ne]; omega
              have HNN := Lib.hid (HN2.out.2 hb)
              clear hb HN2
              go_upto_region 9 with fail
              go_upto_region 10 with fail
              go_wp2_with fail
              go_roundw
              case rel => exact ⟨k + 1, hlt, by go_num, B4, by rw [HNN.out]; exact XB4, XC4⟩
              case measure => simp [intOf]; omega
            · rw [h1] at hbq r2
              have u1 : ¬ x.sf < x.sf := by omega
              have u2 : (x.sf == x.sf) = true := by simp
              clear h1
              rcases ord_no h2 with u3 | ⟨u3, u4, u5⟩
              · clear h2
                have HNN := Lib.hid (HN2.out.2 hb)
                clear hb HN2
                go_upto_region 9 with fail
                go_upto_region 10 with fail
                go_wp2_with fail
                go_roundw
                case rel => exact ⟨k + 1, hlt, by go_num, B4, by rw [HNN.out]; exact XB4, XC4⟩
                case measure => simp [intOf]; omega
              · clear h2
                have u6 : x.id.toList = bb.id.toList := by rw [u5]
                have HNN := Lib.hid (HN2.out.2 hb)
                clear hb HN2
                go_upto_region 9 with fail
                go_upto_region 10 with fail
                go_wp2_with fail
                go_roundw
                case rel => exact ⟨k + 1, hlt, by go_num, B4, by rw [HNN.out]; exact XB4, XC4⟩
                case measure => simp [intOf]; omega
      · have e : l.take k = l := List.take_of_length_le (by omega)
        rw [e] at XR
        have HOX : Hid (sigF m l = O) := Lib.hid HOF.out.symm
        rw [HOX.out] at XR
        clear e
        have hnb : ∀ w, (binOp .neq 45 (kyV (O.getD ky0)) (kyV ky0)).run Tryz.prog w = .ok (.bool O.isSome) w := by
          cases hO : O with
          | none => exact ky_neq0
          | some bb =>
            obtain ⟨j, hj, hjb⟩ := List.getElem_of_mem (sigF_mem m _ bb (HOX.out.trans hO))
            have := HKZ.out.2 j hj
            rw [hjb] at this
            exact ky_neq1 bb (word_full (kyE_zero this).1)
        clear hq0 hn0 HKZ HOF
        go_upto_region 12 with fail
        refine wp_region_held_drew (S := fun w' => KyBox w' (w.heap.size + 1) (O.getD ky0)) (by kernel_rfl) ?_ (fun hHeld => ?_)
        · exact XR.out
        refine wpAnyH_take (i := 0) (oi := _) (v := kyV (O.getD ky0)) rfl (by kernel_rfl) (by kernel_rfl) (by kernel_rfl) (fun _ _ _ h => h) (yields_load_ky (by rfl) _ rfl (w.heap.size + 1) rfl (O.getD ky0) (fun _ h => h)) hHeld ?_
        simp only [List.getElem_toArray, List.getElem_cons_succ, List.getElem_cons_zero, Act.put, List.setIfInBounds_toArray, List.set_cons_zero, List.set_cons_succ]
        refine wpAnyH_take (i := 1) (oi := _) (v := kyV (O.getD ky0)) rfl (by kernel_rfl) (by kernel_rfl) (by kernel_rfl) (fun _ _ _ h => h) (yields_load_ky (by rfl) _ rfl (w.heap.size + 1) rfl (O.getD ky0) (fun _ h => h)) hHeld ?_
        simp only [List.getElem_toArray, List.getElem_cons_succ, List.getElem_cons_zero, Act.put, List.setIfInBounds_toArray, List.set_cons_zero, List.set_cons_succ]
        refine wpAnyH_take (i := 2) (oi := _) (v := kyV ky0) rfl (by kernel_rfl) (by kernel_rfl) (by kernel_rfl) (fun _ _ _ h => h) (yields_build_ky (by rfl) rfl) hHeld ?_
        simp only [List.getElem_toArray, List.getElem_cons_succ, List.getElem_cons_zero, Act.put, List.setIfInBounds_toArray, List.set_cons_zero, List.set_cons_succ]
        refine wpAnyH_take (i := 3) (oi := _) (v := .bool O.isSome) rfl (by kernel_rfl) (by kernel_rfl) (by kernel_rfl) (fun _ _ _ h => h) (Or.inl ⟨by rfl, ?_⟩) hHeld ?_
        · intro w' hSw
          go_simp
        simp only [List.getElem_toArray, List.getElem_cons_succ, List.getElem_cons_zero, Act.put, List.setIfInBounds_toArray, List.set_cons_zero, List.set_cons_succ]
        refine wpAnyH_ready (rs := [4]) (by kernel_rfl) (by simp) ?_
        refine AllReadyH.cons (o := _) rfl (fun K hK => ?_) AllReadyH.nil
        refine step_store_ky rfl _ _ rfl w.heap.size rfl (O.getD ky0) rfl ky0 RR.out ?_
        simp only [List.getElem_toArray, List.getElem_cons_succ, List.getElem_cons_zero, Act.put, List.setIfInBounds_toArray, List.set_cons_zero, List.set_cons_succ]
        refine hK.out _ _ ?_ (fun hHeld2 => ?_)
        · exact KyBox.other (b := w.heap.size + 1) XR.out (by omega)
        refine wpAnyH_take (i := 5) (oi := _) (v := .bool O.isSome) rfl (by kernel_rfl) (by kernel_rfl) (by kernel_rfl) (fun _ _ _ h => h) (Or.inl ⟨by rfl, ?_⟩) hHeld2 ?_
        · intro w' hSw
          go_simp
        simp only [List.getElem_toArray, List.getElem_cons_succ, List.getElem_cons_zero, Act.put, List.setIfInBounds_toArray, List.set_cons_zero, List.set_cons_succ]
        refine wpAnyH_done (by kernel_rfl) ?_ _
        have RS : Hid (KyBox (wr.drew.setRow w.heap.size (kyA (O.getD ky0))) w.heap.size (O.getD ky0)) := Lib.hid (KyBox.set (k0 := ky0) RR.out)
        have BS : Hid (Below w.heap.size w (wr.drew.setRow w.heap.size (kyA (O.getD ky0)))) := Lib.hid (below_setRow BR.out.drew (Nat.le_refl _) _)
        go_wp2_with fail
        refine bodyPost_ret (v := sigV O) (res_ky Tryz.results39 _ _ w.heap.size (O.getD ky0) _ rfl RS.out rfl) rfl ⟨rfl, BS.out⟩
  · have hEb : (E == 0) = false := by simpa using h0
    have HOF : Hid (O = none) := Lib.hid (by rw [HSO.out, if_neg h0])
    clear h0 HSO HE
    go_wp2_with (first
      | (refine load_ky rfl _ rfl _ rfl (w.heap.size + 1) rfl ky0 X2 ?_)
      | (refine store_ky rfl _ rfl _ _ rfl w.heap.size rfl ky0 rfl ky0 R3 ?_)
      | fail)
    refine bodyPost_ret (v := sigV none) (res_ky Tryz.results39 _ _ w.heap.size ky0 _ rfl R3.out.set rfl) rfl ⟨by rw [HOF.out], below_setRow B2.out (Nat.le_refl _) _⟩
end Go.Proofs.YtiiioefjdebggaaGreatDoor

