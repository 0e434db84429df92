/- identityref19.first computes firstO. -/
import Derived.Test.YtkhdhelhkokdcaaDoorJrnLaws
namespace Go.Proofs.YtkhdhelhkokdcaaDoor
open Go.RowKit

def Digs (l : List UInt8) : Prop := ∀ c ∈ l, 48 ≤ c.toNat ∧ c.toNat ≤ 57
theorem val_pre (l : List UInt8) (k : Nat) : valL (l.take k) ≤ valL l := by
  have e : valL l = valF (valL (l.take k)) (l.drop k) := by
    rw [valL_eq (l.take k), ← valF_append, List.take_append_drop]; rfl
  rw [e]; exact valF_ge _ _
theorem good_le {s r : ByteArray} {i : Nat} (hg : Good s r) (hd : Digs (s.data.toList.take i)) : i ≤ (Lib.decDigits r.size).length := by
  obtain ⟨x, hx⟩ := good_split hg
  rcases Nat.lt_or_ge (Lib.decDigits r.size).length i with h | h
  · exfalso
    have h1 : (s.data.toList.take i)[(Lib.decDigits r.size).length]? = some 58 := by
      rw [List.getElem?_take_of_lt h, hx]; simp
    have := hd 58 (List.mem_iff_getElem?.2 ⟨_, h1⟩)
    have e : (58 : UInt8).toNat = 58 := rfl
    omega
  · exact h
theorem good_pre {s r : ByteArray} {i : Nat} (hg : Good s r) (hi : i ≤ (Lib.decDigits r.size).length) : s.data.toList.take i = (Lib.decDigits r.size).take i := by
  obtain ⟨x, hx⟩ := good_split hg
  rw [hx, List.take_append_of_le_length hi]
theorem good_at {s r : ByteArray} {i : Nat} (hg : Good s r) (hd : Digs (s.data.toList.take i)) (hstop : i = s.size ∨ ∃ h : i < s.size, s[i].toNat < 48 ∨ 57 < s[i].toNat) : i = (Lib.decDigits r.size).length := by
  have h1 := good_le hg hd
  obtain ⟨x, hx⟩ := good_split hg
  rcases Nat.lt_or_ge i (Lib.decDigits r.size).length with h | h
  · exfalso
    have hl : s.data.toList.length = s.size := by simp
    have hz : (Lib.decDigits r.size).length < s.data.toList.length := by rw [hx]; simp
    rcases hstop with h2 | ⟨h2, h3⟩
    · omega
    · have e : s.data.toList[i]? = some s[i] := by rw [List.getElem?_eq_getElem (by omega)]; rfl
      rw [hx, List.getElem?_append_left h] at e
      have := decDigits_digit r.size s[i] (List.mem_iff_getElem?.2 ⟨_, e⟩)
      omega
  · omega
theorem good_size {s r : ByteArray} (hg : Good s r) : (Lib.decDigits r.size).length + 1 + r.size ≤ s.size := by
  obtain ⟨x, hx⟩ := good_split hg
  have h1 : s.data.toList.length = s.size := by simp
  rw [← h1, hx]; simp; omega
theorem good_rec {s r : ByteArray} (hg : Good s r) : s.extract ((Lib.decDigits r.size).length + 1) ((Lib.decDigits r.size).length + 1 + r.size) = r := by
  obtain ⟨x, hx⟩ := good_split hg
  apply ByteArray.ext; apply Array.toList_inj.1
  rw [ext_mid, hx, show (Lib.decDigits r.size).length + 1 = (Lib.decDigits r.size ++ [58]).length by simp, show Lib.decDigits r.size ++ 58 :: (r.data.toList ++ ((textS r).data.toList ++ 10 :: x)) = (Lib.decDigits r.size ++ [58]) ++ (r.data.toList ++ ((textS r).data.toList ++ 10 :: x)) by simp, List.drop_left]
  rw [Nat.add_sub_cancel_left, show r.size = r.data.toList.length by simp, List.take_left]
theorem rf_over {s : ByteArray} {i n : Nat} (hd : Digs (s.data.toList.take i)) (hn : valL (s.data.toList.take i) = n) (h : 4096 < n) : firstO s = none := by
  rw [firstO_none]
  intro r hg
  have h1 := good_le hg hd
  rw [good_pre hg h1] at hn
  have h2 := val_pre (Lib.decDigits r.size) i
  rw [valL_dec] at h2
  have := hg.1
  omega
theorem rf_n {s r : ByteArray} {i n : Nat} (hg : Good s r) (hd : Digs (s.data.toList.take i)) (hn : valL (s.data.toList.take i) = n) (hstop : i = s.size ∨ ∃ h : i < s.size, s[i].toNat < 48 ∨ 57 < s[i].toNat) : n = r.size ∧ i = (Lib.decDigits r.size).length := by
  have h1 := good_at hg hd hstop
  rw [good_pre hg (by omega), h1, List.take_of_length_le (Nat.le_refl _), valL_dec] at hn
  exact ⟨hn.symm, h1⟩
theorem rf_len {s : ByteArray} {i n : Nat} (hd : Digs (s.data.toList.take i)) (hn : valL (s.data.toList.take i) = n) (hstop : i = s.size ∨ ∃ h : i < s.size, s[i].toNat < 48 ∨ 57 < s[i].toNat) (h : s.size < i + 1 + n) : firstO s = none := by
  rw [firstO_none]
  intro r hg
  obtain ⟨h1, h2⟩ := rf_n hg hd hn hstop
  have := good_size hg
  omega
theorem rf_yes {s : ByteArray} {i n : Nat} (h4 : n ≤ 4096) (h : i + 1 + n ≤ s.size) (hp : Lib.hasPrefix s.data.toList (encS (s.extract (i + 1) (i + 1 + n))).data.toList = true) : firstO s = some (s.extract (i + 1) (i + 1 + n)) := by
  rw [firstO_some]
  exact ⟨by simp [ByteArray.size_extract]; omega, hp⟩
theorem rf_no {s : ByteArray} {i n : Nat} (hd : Digs (s.data.toList.take i)) (hn : valL (s.data.toList.take i) = n) (hstop : i = s.size ∨ ∃ h : i < s.size, s[i].toNat < 48 ∨ 57 < s[i].toNat) (hp : Lib.hasPrefix s.data.toList (encS (s.extract (i + 1) (i + 1 + n))).data.toList = false) : firstO s = none := by
  rw [firstO_none]
  intro r hg
  obtain ⟨h1, h2⟩ := rf_n hg hd hn hstop
  rw [h1, h2, good_rec hg, hg.2] at hp
  cases hp
/-- What first answers. -/
noncomputable def firstS (s : ByteArray) : ByteArray := (firstO s).getD ⟨#[]⟩
noncomputable def firstB (s : ByteArray) : Bool := (firstO s).isSome
theorem ret_sb {a b : ByteArray} {x y : Bool} (h1 : a = b) (h2 : x = y) : Ending.returned (.tuple #[.string a, .bool x]) = .returned (.tuple #[.string b, .bool y]) := by rw [h1, h2]
theorem fs_none {s : ByteArray} (h : firstO s = none) : (⟨#[]⟩ : ByteArray) = firstS s ∧ false = firstB s := by simp [firstS, firstB, h]
theorem fs_some {s r : ByteArray} (h : firstO s = some r) : r = firstS s ∧ true = firstB s := by simp [firstS, firstB, h]
theorem pre_iff (s e : ByteArray) : Lib.hasPrefix s.data.toList e.data.toList = true ↔ e.size ≤ s.size ∧ s.extract 0 e.size = e := by
  rw [Lib.hasPrefix, List.isPrefixOf_iff_prefix]
  constructor
  · rintro ⟨x, hx⟩
    have h1 : s.size = e.size + x.length := by
      have : s.data.toList.length = s.size := by simp
      rw [← this, ← hx]; simp
    refine ⟨by omega, ?_⟩
    apply ByteArray.ext; apply Array.toList_inj.1
    rw [ext_front, ← hx, show e.size = e.data.toList.length by simp, List.take_left]
  · rintro ⟨h1, h2⟩
    refine ⟨s.data.toList.drop e.size, ?_⟩
    conv => lhs; rw [← h2]
    rw [ext_front]
    have : (s.extract 0 e.size).size = e.size := by rw [h2]
    rw [show (s.extract 0 e.size).size = e.size from this, List.take_append_drop]

set_option maxHeartbeats 4000000 in
theorem rfirst_any (s : ByteArray) (w : World) (hs : s.size ≤ 1000000) :
    Calls Tryd.prog 32 #[.string s] w fun e w' => e = .returned (.tuple #[.string (firstS s), .bool (firstB s)]) ∧ Below w.heap.size w w' := by
  go_enter Tryd.func32, Tryd.ntmps32
  go_wp2_with fail
  go_loop [4, 5] (fun n i => ∃ k m : Nat, k ≤ s.size ∧ i = .int .i64 k ∧ n = .int .i64 m ∧ m ≤ 40969 ∧ Hid (Digs (s.data.toList.take k)) ∧ Hid (valL (s.data.toList.take k) = m)) (fun _ i => s.size - (intOf i).toNat)
  case atStart => exact ⟨0, 0, Nat.zero_le _, rfl, rfl, by omega, Lib.hid (fun c hc => by simp at hc), Lib.hid rfl⟩
  case round =>
    obtain ⟨k, m, hk, rfl, rfl, hm, HD, HM⟩ := hrel
    by_cases hm4 : 4096 < m
    · have hG := Lib.hid (fs_none (rf_over HD.out HM.out hm4))
      have hcs : ¬ k < s.size ∨ (∃ h : k < s.size, s[k].toNat < 48) ∨ (∃ h : k < s.size, 57 < s[k].toNat) ∨ (∃ h : k < s.size, 48 ≤ s[k].toNat ∧ s[k].toNat ≤ 57) := by
        by_cases h : k < s.size
        · rcases (show s[k].toNat < 48 ∨ 57 < s[k].toNat ∨ (48 ≤ s[k].toNat ∧ s[k].toNat ≤ 57) by omega) with h1 | h1 | h1
          · exact .inr (.inl ⟨h, h1⟩)
          · exact .inr (.inr (.inl ⟨h, h1⟩))
          · exact .inr (.inr (.inr ⟨h, h1⟩))
        · exact .inl h
      rcases hcs with h | ⟨h, h1⟩ | ⟨h, h1⟩ | ⟨h, h1, h2⟩
      · go_wp2_with fail
        go_ret2
        exact ⟨ret_sb hG.out.1 hG.out.2, Below.refl _ _⟩
      all_goals
        obtain ⟨c, hc⟩ : ∃ c, s[k].toNat = c := ⟨_, rfl⟩
        rw [hc] at h1
        try rw [hc] at h2
        go_wp2_with fail
        go_ret2
        exact ⟨ret_sb hG.out.1 hG.out.2, Below.refl _ _⟩
    · by_cases hlt : k < s.size
      · obtain ⟨c, hc⟩ : ∃ c, s[k].toNat = c := ⟨_, rfl⟩
        have HC := Lib.hid hc
        have hcs : (c < 48 ∨ 57 < c) ∨ (48 ≤ c ∧ c ≤ 57) := by omega
        rcases hcs with hstop | ⟨h1, h2⟩
        · have HS : Hid (k = s.size ∨ ∃ h : k < s.size, s[k].toNat < 48 ∨ 57 < s[k].toNat) := Lib.hid (.inr ⟨hlt, by rw [HC.out]; exact hstop⟩)
          by_cases hz : s.size < k + 1 + m
          · have hG := Lib.hid (fs_none (rf_len HD.out HM.out HS.out hz))
            rcases hstop with h1 | h1
            all_goals
              go_wp2_with fail
              go_ret2
              exact ⟨ret_sb hG.out.1 hG.out.2, Below.refl _ _⟩
          · have HY := Lib.hid (rf_yes (s := s) (i := k) (n := m) (by omega) (by omega))
            have HN := Lib.hid (rf_no HD.out HM.out HS.out)
            have hPI := Lib.hid (pre_iff s (encS (s.extract (k + 1) (k + 1 + m))))
            have hrz : (s.extract (k + 1) (k + 1 + m)).size ≤ 1000000 := by simp [ByteArray.size_extract]; omega
            have hre := fun wq => renc_any (s.extract (k + 1) (k + 1 + m)) wq hrz
            have hez := encS_size (s.extract (k + 1) (k + 1 + m))
            have hiz := itoaS_size (s.extract (k + 1) (k + 1 + m)).size (by omega) (by omega)
            have hez2 : (encS (s.extract (k + 1) (k + 1 + m))).size ≤ 2000000 := by omega
            clear hez hiz hrz
            obtain ⟨E, HE⟩ : ∃ E, Hid (encS (s.extract (k + 1) (k + 1 + m)) = E) := ⟨_, Lib.hid rfl⟩
            rw [HE.out] at hez2
            simp only [HE.out] at hre
            by_cases hEs : s.size < E.size
            · have hp : Lib.hasPrefix s.data.toList (encS (s.extract (k + 1) (k + 1 + m))).data.toList = false := by
                rw [Bool.eq_false_iff]; intro h; have := (hPI.out.1 h).1; rw [HE.out] at this; omega
              have hG := Lib.hid (fs_none (HN.out hp))
              clear hp
              rcases hstop with h1 | h1
              all_goals
                go_wp2_with fail
                refine (Calls.mono (hre _) ?_)
                rintro e w1 ⟨rfl, hb1⟩
                go_wp2_with fail
                go_ret2
                exact ⟨ret_sb hG.out.1 hG.out.2, hb1⟩
            · by_cases hEq : s.extract 0 E.size = E
              · have hp : Lib.hasPrefix s.data.toList (encS (s.extract (k + 1) (k + 1 + m))).data.toList = true := by
                  rw [hPI.out, HE.out]; exact ⟨by omega, hEq⟩
                have hG := Lib.hid (fs_some (HY.out hp))
                have hq : ((s.extract 0 E.size).toList == E.toList) = true := by rw [hEq]; simp
                clear hp hEq
                rcases hstop with h1 | h1
                all_goals
                  go_wp2_with fail
                  refine (Calls.mono (hre _) ?_)
                  rintro e w1 ⟨rfl, hb1⟩
                  go_wp2_with fail
                  go_ret2
                  exact ⟨ret_sb hG.out.1 hG.out.2, hb1⟩
              · have hp : Lib.hasPrefix s.data.toList (encS (s.extract (k + 1) (k + 1 + m))).data.toList = false := by
                  rw [Bool.eq_false_iff]; intro h; have := (hPI.out.1 h).2; rw [HE.out] at this; exact hEq this
                have hG := Lib.hid (fs_none (HN.out hp))
                have hq := str_ne hEq
                clear hp hEq
                rcases hstop with h1 | h1
                all_goals
                  go_wp2_with fail
                  refine (Calls.mono (hre _) ?_)
                  rintro e w1 ⟨rfl, hb1⟩
                  go_wp2_with fail
                  go_ret2
                  exact ⟨ret_sb hG.out.1 hG.out.2, hb1⟩
        · have hl : k < s.data.toList.length := by simpa using hlt
          have HD1 : Hid (Digs (s.data.toList.take (k + 1))) := by
            show Digs _
            intro x hx
            rw [List.take_succ_eq_append_getElem hl, List.mem_append] at hx
            rcases hx with hx | hx
            · exact HD.out x hx
            · rw [List.mem_singleton] at hx; subst hx
              have e : s.data.toList[k] = s[k] := rfl
              rw [e, HC.out]; exact ⟨h1, h2⟩
          have HM1 : Hid (valL (s.data.toList.take (k + 1)) = m * 10 + (c - 48)) := by
            show _ = _
            have e : s.data.toList[k] = s[k] := rfl
            rw [List.take_succ_eq_append_getElem hl, valL_eq, valF_append, ← valL_eq, HM.out, e]
            show m * 10 + (s[k].toNat - 48) = _
            rw [HC.out]
          obtain ⟨d, rfl⟩ : ∃ d, c = 48 + d := ⟨c - 48, by omega⟩
          have hd9 : d ≤ 9 := by omega
          have e1 : (48 : Int) + (d : Int) - 48 = (d : Int) := by omega
          go_wp2_with fail
          go_round
          case rel => exact ⟨k + 1, m * 10 + (48 + d - 48), hlt, by go_num, by go_num, by omega, HD1, HM1⟩
          case measure => simp [intOf]; omega
      · have HS : Hid (k = s.size ∨ ∃ h : k < s.size, s[k].toNat < 48 ∨ 57 < s[k].toNat) := Lib.hid (.inl (by omega))
        have hG := Lib.hid (fs_none (rf_len HD.out HM.out HS.out (by omega)))
        go_wp2_with fail
        go_ret2
        exact ⟨ret_sb hG.out.1 hG.out.2, Below.refl _ _⟩
end Go.Proofs.YtkhdhelhkokdcaaDoor
