/- journal.first: the record with which bytes begin. -/
import Derived.Test.YtkhdhelhkokdcaaDoorJrnEnc
import Derived.Test.YtkhdhelhkokdcaaDoorErrs
import Derived.Test.YtkhdhelhkokdcaaDoorIdx
import Derived.Lib.ParseIntB
import Derived.Lib.Bytealg
import Derived.Lib.ConvBytes
import Derived.Lib.AtoiErrMem
namespace Go.Proofs.YtkhdhelhkokdcaaDoor
open Go.RowKit

/-- strconv.ParseUint(s, 10, 16). -/
def puS (s : ByteArray) : Option Nat := match Lib.parseUintB 16 s.data.toList with | .ok u => some u | _ => none
theorem parseU_some (s : ByteArray) (u : Nat) (w : World) (h : puS s = some u) (hs : s.size ≤ 1000000) :
    Calls Tryd.prog 45 #[.string s, .int .i64 10, .int .i64 16] w fun e w' => e = .returned (.tuple #[.int .u64 (u : Int), .nilIface]) ∧ Below w.heap.size w w' := by
  have hu : Lib.parseUintB 16 s.data.toList = .ok u := by
    unfold puS at h
    split at h
    · rename_i v hv; cases h; exact hv
    · cases h
  refine (Tryd.strconv_ParseUint_10_at16_ok s (by omega) u hu w).mono ?_
  rintro e w' ⟨he, hw⟩
  refine ⟨he, ?_⟩
  rcases hw with rfl | rfl
  · exact Below.refl _ _
  · exact Lib.bytesWorld_below w _ s
theorem parseU_none (s : ByteArray) (w : World) (h : puS s = none) (hs : s.size ≤ 1000000) (hE : ErrsOk w) :
    Calls Tryd.prog 45 #[.string s, .int .i64 10, .int .i64 16] w fun e w' => (∃ (u : Int) (t : TypeId) (p : Value), e = .returned (.tuple #[.int .u64 u, .iface t p])) ∧ Below w.heap.size w w' := by
  obtain ⟨⟨t, p, h1⟩, ⟨t', p', h2⟩, l1, l2⟩ := hE
  cases hu : Lib.parseUintB 16 s.data.toList
  case ok v => rw [puS, hu] at h; cases h
  case range =>
    refine (Tryd.strconv_ParseUint_10_at16_range_var s (by omega) hu t' p' w h2).mono ?_
    rintro e w' ⟨N, he, _, _, hb⟩
    exact ⟨⟨_, _, _, he⟩, hb⟩
  ·
    refine (Tryd.strconv_ParseUint_10_at16_syntax_var s (by omega) hu t p w h1).mono ?_
    rintro e w' ⟨N, he, _, _, hb⟩
    exact ⟨⟨_, _, _, he⟩, hb⟩

/-- What journal.first makes of a length n whose digits end at k. -/
def firstH (s : ByteArray) (k n : Nat) : ByteArray × Int × Bool :=
  if 4096 < n ∨ s.size < k + 1 + n then (⟨#[]⟩, 0, false) else (s.extract (k + 1) (k + 1 + n), ((encS (s.extract (k + 1) (k + 1 + n))).size : Int), Lib.hasPrefix s.data.toList (encS (s.extract (k + 1) (k + 1 + n))).data.toList)
def firstG (s : ByteArray) (k : Nat) : ByteArray × Int × Bool := match puS (s.extract 0 k) with
  | none => (⟨#[]⟩, 0, false)
  | some n => firstH s k n
/-- The program's journal.first. -/
def firstP (s : ByteArray) : ByteArray × Int × Bool :=
  if cutI s 58 < 1 ∨ 4 < cutI s 58 ∨ (1 < cutI s 58 ∧ s.data.toList[0]? = some 48) then (⟨#[]⟩, 0, false) else firstG s (cutI s 58).toNat
theorem ret_sib {a b : ByteArray} {x y : Int} {p q : Bool} (h1 : a = b) (h2 : x = y) (h3 : p = q) : Ending.returned (.tuple #[.string a, .int .i64 x, .bool p]) = .returned (.tuple #[.string b, .int .i64 y, .bool q]) := by rw [h1, h2, h3]
theorem ret_first {r : ByteArray × Int × Bool} {a : ByteArray} {x : Int} {p : Bool} (h : r = (a, x, p)) : Ending.returned (.tuple #[.string a, .int .i64 x, .bool p]) = .returned (.tuple #[.string r.1, .int .i64 r.2.1, .bool r.2.2]) := by rw [h]
set_option maxHeartbeats 2000000 in
theorem first_any (s : ByteArray) (w : World) (hd : DigOk w) (hp : PowOk w) (hE : ErrsOk w) (hs : s.size ≤ 1000000) :
    Calls Tryd.prog 31 #[.string s] w fun e w' => e = .returned (.tuple #[.string (firstP s).1, .int .i64 (firstP s).2.1, .bool (firstP s).2.2]) ∧ Below w.heap.size w w' := by
  have hlt := cutI_lt s 58
  have HF : Hid (firstP s = if cutI s 58 < 1 ∨ 4 < cutI s 58 ∨ (1 < cutI s 58 ∧ s.data.toList[0]? = some 48) then (⟨#[]⟩, 0, false) else firstG s (cutI s 58).toNat) := rfl
  generalize firstP s = q at *
  have HX : Hid (Lib.indexByte s.data.toList 58 = cutI s 58) := rfl
  generalize hz : cutI s 58 = z at *
  clear hz
  by_cases hz1 : z < 1
  · have HQ : Hid (q = (⟨#[]⟩, 0, false)) := by show _ = _; rw [HF.out, if_pos (.inl hz1)]
    go_enter Tryd.func31, Tryd.ntmps31
    go_wp2_with fail
    refine (Tryd.strings_IndexByte s 58 w).mono ?_
    rintro e w1 ⟨rfl, rfl⟩
    rw [show (58 : Int).toNat.toUInt8 = 58 from rfl, HX.out]
    go_wp2_with fail
    go_ret3
    exact ⟨ret_first HQ.out, Below.refl _ _⟩
  · by_cases hz4 : 4 < z
    · have HQ : Hid (q = (⟨#[]⟩, 0, false)) := by show _ = _; rw [HF.out, if_pos (.inr (.inl hz4))]
      go_enter Tryd.func31, Tryd.ntmps31
      go_wp2_with fail
      refine (Tryd.strings_IndexByte s 58 w).mono ?_
      rintro e w1 ⟨rfl, rfl⟩
      rw [show (58 : Int).toNat.toUInt8 = 58 from rfl, HX.out]
      go_wp2_with fail
      go_ret3
      exact ⟨ret_first HQ.out, Below.refl _ _⟩
    · obtain ⟨k, rfl⟩ := Int.eq_ofNat_of_zero_le (show 0 ≤ z by omega)
      rw [Int.toNat_natCast] at HF
      have hk1 : 1 ≤ k := by omega
      have hk4 : k ≤ 4 := by omega
      have hks : k < s.size := by omega
      have hs0 : 0 < s.size := by omega
      clear hlt hz1 hz4
      by_cases hlead : 1 < k ∧ s[0].toNat = 48
      · have HQ : Hid (q = (⟨#[]⟩, 0, false)) := by
          show _ = _
          rw [HF.out, if_pos (.inr (.inr ⟨by omega, by rw [List.getElem?_eq_getElem (by simpa using hs0), Option.some.injEq, ← UInt8.toNat_inj]; exact hlead.2⟩))]
        obtain ⟨h1, h2⟩ := hlead
        have hb : ((s[0].toNat : Int) == 48) = true := by rw [h2]; rfl
        clear h2
        go_enter Tryd.func31, Tryd.ntmps31
        go_wp2_with fail
        refine (Tryd.strings_IndexByte s 58 w).mono ?_
        rintro e w1 ⟨rfl, rfl⟩
        rw [show (58 : Int).toNat.toUInt8 = 58 from rfl, HX.out]
        go_wp2_with fail
        go_ret3
        exact ⟨ret_first HQ.out, Below.refl _ _⟩
      · have HG : Hid (q = firstG s k) := by
          show _ = _
          rw [HF.out, if_neg]
          rintro (h | h | ⟨h1, h2⟩)
          · omega
          · omega
          · apply hlead
            refine ⟨by omega, ?_⟩
            rw [List.getElem?_eq_getElem (by simpa using hs0), Option.some.injEq, ← UInt8.toNat_inj] at h2
            exact h2
        have hez : (s.extract 0 k).size ≤ 4 := by simp [ByteArray.size_extract]; omega
        have HEZ := Lib.hid hez
        have hlb : 1 < k → ((s[0].toNat : Int) == 48) = false := fun h => by rw [beq_eq_false_iff_ne]; intro h2; exact hlead ⟨h, by omega⟩
        clear hlead hez
        cases hpu : puS (s.extract 0 k) with
        | none =>
          have HQ : Hid (q = (⟨#[]⟩, 0, false)) := by show _ = _; rw [HG.out, firstG, hpu]
          have HPU := Lib.hid hpu
          clear hpu
          have hcs : k = 1 ∨ (1 < k ∧ ((s[0].toNat : Int) == 48) = false) := by
            by_cases h : 1 < k
            · exact .inr ⟨h, hlb h⟩
            · exact .inl (by omega)
          clear hlb
          rcases hcs with rfl | ⟨h1, h2⟩
          all_goals
            go_enter Tryd.func31, Tryd.ntmps31
            go_wp2_with fail
            refine (Tryd.strings_IndexByte s 58 w).mono ?_
            rintro e w1 ⟨rfl, rfl⟩
            rw [show (58 : Int).toNat.toUInt8 = 58 from rfl, HX.out]
            go_wp2_with fail
            refine (parseU_none _ _ HPU.out (by have := HEZ.out; omega) hE).mono ?_
            rintro e w2 ⟨⟨u, t, p, rfl⟩, hb2⟩
            go_wp2_with fail
            go_ret3
            exact ⟨ret_first HQ.out, hb2⟩
        | some n =>
          have HG2 : Hid (q = firstH s k n) := by show _ = _; rw [HG.out, firstG, hpu]
          have HPU := Lib.hid hpu
          clear hpu
          have hcs : k = 1 ∨ (1 < k ∧ ((s[0].toNat : Int) == 48) = false) := by
            by_cases h : 1 < k
            · exact .inr ⟨h, hlb h⟩
            · exact .inl (by omega)
          clear hlb HG HF
          by_cases hn : 4096 < n
          · have HQ : Hid (q = (⟨#[]⟩, 0, false)) := by show _ = _; rw [HG2.out, firstH, if_pos (.inl hn)]
            rcases hcs with rfl | ⟨h1, h2⟩
            all_goals
              go_enter Tryd.func31, Tryd.ntmps31
              go_wp2_with fail
              refine (Tryd.strings_IndexByte s 58 w).mono ?_
              rintro e w1 ⟨rfl, rfl⟩
              rw [show (58 : Int).toNat.toUInt8 = 58 from rfl, HX.out]
              go_wp2_with fail
              refine (parseU_some _ _ _ HPU.out (by have := HEZ.out; omega)).mono ?_
              rintro e w2 ⟨rfl, hb2⟩
              have HB2 := Lib.hid hb2
              clear hb2
              go_wp2_with fail
              go_ret3
              exact ⟨ret_first HQ.out, HB2.out⟩
          · by_cases hsz : s.size < k + 1 + n
            · have HQ : Hid (q = (⟨#[]⟩, 0, false)) := by show _ = _; rw [HG2.out, firstH, if_pos (.inr hsz)]
              rcases hcs with rfl | ⟨h1, h2⟩
              all_goals
                go_enter Tryd.func31, Tryd.ntmps31
                go_wp2_with fail
                refine (Tryd.strings_IndexByte s 58 w).mono ?_
                rintro e w1 ⟨rfl, rfl⟩
                rw [show (58 : Int).toNat.toUInt8 = 58 from rfl, HX.out]
                go_wp2_with fail
                refine (parseU_some _ _ _ HPU.out (by have := HEZ.out; omega)).mono ?_
                rintro e w2 ⟨rfl, hb2⟩
                have HB2 := Lib.hid hb2
                clear hb2
                go_wp2_with fail
                go_ret3
                exact ⟨ret_first HQ.out, HB2.out⟩
            · have HQ : Hid (q = (s.extract (k + 1) (k + 1 + n), ((encS (s.extract (k + 1) (k + 1 + n))).size : Int), Lib.hasPrefix s.data.toList (encS (s.extract (k + 1) (k + 1 + n))).data.toList)) := by show _ = _; rw [HG2.out, firstH, if_neg (by omega)]
              have hsz' : k + 1 + n ≤ s.size := by omega
              have hn' : n ≤ 4096 := by omega
              have HRZ : Hid ((s.extract (k + 1) (k + 1 + n)).size ≤ 1000000) := by show _ ≤ _; simp [ByteArray.size_extract]; omega
              clear hsz hn HG2
              rcases hcs with rfl | ⟨h1, h2⟩
              all_goals
                go_enter Tryd.func31, Tryd.ntmps31
                go_wp2_with fail
                refine (Tryd.strings_IndexByte s 58 w).mono ?_
                rintro e w1 ⟨rfl, rfl⟩
                rw [show (58 : Int).toNat.toUInt8 = 58 from rfl, HX.out]
                go_wp2_with fail
                refine (parseU_some _ _ _ HPU.out (by have := HEZ.out; omega)).mono ?_
                rintro e w2 ⟨rfl, hb2⟩
                have HB2 := Lib.hid hb2
                clear hb2
                go_wp2_with fail
                refine (enc_any _ _ (hd.below HB2.out) (hp.below HB2.out) HRZ.out).mono ?_
                rintro e w3 ⟨rfl, hb3⟩
                have HB3 := Lib.hid (bthen HB2.out hb3)
                clear hb3
                go_wp2_with fail
                refine (Tryd.strings_HasPrefix s _ _).mono ?_
                rintro e w4 ⟨rfl, rfl⟩
                go_wp2_with fail
                go_ret3
                exact ⟨ret_first HQ.out, HB3.out⟩
end Go.Proofs.YtkhdhelhkokdcaaDoor
