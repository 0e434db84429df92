/- codec.ReadBase64 reads what b64S writes, and nothing else. -/
import Derived.Test.YtnkblimmlkidcaaDoorCodB64
namespace Go.Proofs.YtnkblimmlkidcaaDoor
open Go.RowKit

theorem b64_index (c : UInt8) : Lib.indexByte b64Tab.data.toList c = match b64Val c with | none => -1 | some v => (v : Int) := by
  have : ∀ n : Fin 256, Lib.indexByte b64Tab.data.toList (UInt8.ofNat n.1) = match b64Val (UInt8.ofNat n.1) with | none => -1 | some d => (d : Int) := by decide +kernel
  have h := this ⟨c.toNat, c.toNat_lt⟩
  simpa using h
/-- strings.IndexByte in the letters. -/
theorem index_letter (c : UInt8) (w : World) :
    Calls Tryd.prog 38 #[.string b64Tab, .int .u8 (c.toNat : Int)] w fun e w' => e = .returned (.int .i64 (match b64Val c with | none => -1 | some v => (v : Int))) ∧ w = w' := by
  refine (Tryd.strings_IndexByte b64Tab (c.toNat : Int) w).mono ?_
  rintro e w' ⟨rfl, rfl⟩
  refine ⟨ret_int ?_, rfl⟩
  rw [← b64_index]
  simp
theorem index_letter_none (c : UInt8) (w : World) (h : b64Val c = none) :
    Calls Tryd.prog 38 #[.string b64Tab, .int .u8 (c.toNat : Int)] w fun e w' => e = .returned (.int .i64 (-1)) ∧ w = w' := by
  have := index_letter c w; rw [h] at this; exact this
theorem index_letter_some (c : UInt8) (v : Nat) (w : World) (h : b64Val c = some v) :
    Calls Tryd.prog 38 #[.string b64Tab, .int .u8 (c.toNat : Int)] w fun e w' => e = .returned (.int .i64 (v : Int)) ∧ w = w' := by
  have := index_letter c w; rw [h] at this; exact this

theorem r64_none {s : ByteArray} {k N x : Nat} {c : UInt8} {pre : List UInt8} {L : Option (List UInt8)} (hk : k < s.size) (hc : s[k] = c) (hv : b64Val c = none) (HP : (b64D (s.data.toList.drop k) N x).map (pre ++ ·) = L) : L = none := by
  rw [drop_cons s k hk, hc] at HP
  rw [← HP]
  unfold b64D
  split <;> simp_all
theorem r64_step0 {s : ByteArray} {k v : Nat} {c : UInt8} {pre : List UInt8} {L : Option (List UInt8)} (hk : k < s.size) (hc : s[k] = c) (hv : b64Val c = some v) (HP : (b64D (s.data.toList.drop k) 0 0).map (pre ++ ·) = L) :
    (b64D (s.data.toList.drop (k + 1)) 6 v).map (pre ++ ·) = L := by
  rw [drop_cons s k hk, hc, b64D, hv] at HP
  simpa using HP
theorem r64_snoc {o : Option (List UInt8)} {pre : List UInt8} {q : UInt8} : (o.map fun t => q :: t).map (pre ++ ·) = o.map ((pre ++ [q]) ++ ·) := by
  cases o <;> simp
theorem r64_step2 {s : ByteArray} {k v x : Nat} {c q : UInt8} {pre : List UInt8} {L : Option (List UInt8)} (hk : k < s.size) (hc : s[k] = c) (hv : b64Val c = some v) (hq : UInt8.ofNat (x * 64 + v) = q) (HP : (b64D (s.data.toList.drop k) 2 x).map (pre ++ ·) = L) :
    (b64D (s.data.toList.drop (k + 1)) 0 0).map ((pre ++ [q]) ++ ·) = L := by
  rw [drop_cons s k hk, hc, b64D, hv, Option.bind_some, hq, r64_snoc] at HP
  exact HP
theorem r64_step4 {s : ByteArray} {k v x y : Nat} {c q : UInt8} {pre : List UInt8} {L : Option (List UInt8)} (hk : k < s.size) (hc : s[k] = c) (hv : b64Val c = some v) (hq : UInt8.ofNat (x * 16 + v / 4) = q) (hy : v % 4 = y) (HP : (b64D (s.data.toList.drop k) 4 x).map (pre ++ ·) = L) :
    (b64D (s.data.toList.drop (k + 1)) 2 y).map ((pre ++ [q]) ++ ·) = L := by
  rw [drop_cons s k hk, hc, b64D, hv, Option.bind_some, hq, hy, r64_snoc] at HP
  exact HP
theorem r64_step6 {s : ByteArray} {k v x y : Nat} {c q : UInt8} {pre : List UInt8} {L : Option (List UInt8)} (hk : k < s.size) (hc : s[k] = c) (hv : b64Val c = some v) (hq : UInt8.ofNat (x * 4 + v / 16) = q) (hy : v % 16 = y) (HP : (b64D (s.data.toList.drop k) 6 x).map (pre ++ ·) = L) :
    (b64D (s.data.toList.drop (k + 1)) 4 y).map ((pre ++ [q]) ++ ·) = L := by
  rw [drop_cons s k hk, hc, b64D, hv, Option.bind_some, hq, hy, r64_snoc] at HP
  · exact HP
  all_goals omega
theorem r64_end {s : ByteArray} {k N x : Nat} {pre : List UInt8} (hk : ¬ k < s.size) (HP : (b64D (s.data.toList.drop k) N x).map (pre ++ ·) = b64D s.data.toList 0 0) :
    readB64O s = if N < 6 ∧ x = 0 then some ⟨pre.toArray⟩ else none := by
  rw [List.drop_of_length_le (by simp; have : s.size = s.data.size := rfl; omega), b64D] at HP
  unfold readB64O
  rw [← HP]
  by_cases h : N < 6 ∧ x = 0 <;> simp [h]
theorem read_bad {s : ByteArray} (h : readB64O s = none) : readB64S s = ⟨#[]⟩ ∧ readB64Err s = 4 := by
  simp [readB64S, readB64Err, h]; rfl
theorem read_good {s t : ByteArray} (h : readB64O s = some t) : readB64S s = t ∧ readB64Err s = 0 := by
  simp [readB64S, readB64Err, h]
theorem ret_se {a b : ByteArray} {x y : Int} (h1 : a = b) (h2 : x = y) : Ending.returned (.tuple #[.string a, .int .i64 x]) = .returned (.tuple #[.string b, .int .i64 y]) := by rw [h1, h2]
theorem b64Val_lt {c : UInt8} {v : Nat} (h : b64Val c = some v) : v < 64 := (b64Dig_val h).2
theorem wrap_u8 (z : Nat) : IntKind.u8.wrap (z : Int) = ((UInt8.ofNat z).toNat : Int) := by
  rw [IntKind.wrap_u8]; simp

set_option maxHeartbeats 2000000 in
theorem readb64_any (s : ByteArray) (w : World) (hs : s.size ≤ 1000000000) :
    Calls Tryd.prog 33 #[.string s] w fun e w' => e = .returned (.tuple #[.string (readB64S s), .int .i64 (readB64Err s)]) ∧ Below w.heap.size w w' := by
  go_enter Tryd.func33, Tryd.ntmps33
  go_wp2_with fail
  go_loopw [5, 6, 7, 8, 11] (fun bits n _ _ j wr => ∃ (k N x : Nat) (pre : List UInt8), k ≤ s.size ∧ j = .int .i64 k ∧ n = .int .i64 N ∧ bits = .int .i64 x ∧ ((N = 0 ∧ x = 0) ∨ (N = 2 ∧ x < 4) ∨ (N = 4 ∧ x < 16) ∨ (N = 6 ∧ x < 64)) ∧ Bld w.heap.size w.heap.size pre wr ∧ Hid ((b64D (s.data.toList.drop k) N x).map (pre ++ ·) = b64D s.data.toList 0 0) ∧ pre.length ≤ k ∧ Below w.heap.size w wr) (fun _ _ _ _ i _ => s.size - (intOf i).toNat)
  case atStart => exact ⟨0, 0, 0, [], Nat.zero_le _, rfl, rfl, rfl, .inl ⟨rfl, rfl⟩, Bld.fresh w, Lib.hid (by simp), Nat.zero_le _, (Below.refl _ _).alloc (Nat.le_refl _) _⟩
  case round =>
    obtain ⟨k, N, x, pre, hk, rfl, rfl, rfl, hcs, hB, HP, hpl, hbr⟩ := hrel
    by_cases hlt : k < s.size
    · obtain ⟨c, hc⟩ : ∃ c, s[k] = c := ⟨_, rfl⟩
      have HC := Lib.hid hc
      cases hv : b64Val c with
      | none =>
        have HV := Lib.hid hv
        clear hv
        go_wp2_with fail
        refine (index_letter_none _ _ HV.out).mono ?_
        rintro e w1 ⟨rfl, rfl⟩
        go_wp2_with fail
        go_ret2
        have hN := read_bad (s := s) (by unfold readB64O; rw [r64_none hlt HC.out HV.out HP.out]; rfl)
        exact ⟨ret_se hN.1.symm hN.2.symm, hbr⟩
      | some v =>
        have HV := Lib.hid hv
        have hvl := b64Val_lt hv
        clear hv
        rcases hcs with ⟨rfl, rfl⟩ | ⟨rfl, hx⟩ | ⟨rfl, hx⟩ | ⟨rfl, hx⟩
        · have eor : bits BinOp.or IntKind.i64 0 (v : Int) = v := by simpa using or_six 0 v (by omega) (by omega) (by omega) (by omega)
          go_wp2_with fail
          refine (index_letter_some _ _ _ HV.out).mono ?_
          rintro e w1 ⟨rfl, rfl⟩
          go_wp2_with fail
          go_roundw
          case rel => exact ⟨k + 1, 6, v, pre, by omega, by go_num, rfl, rfl, .inr (.inr (.inr ⟨rfl, hvl⟩)), hB, Lib.hid (r64_step0 hlt HC.out HV.out HP.out), by omega, hbr⟩
          case measure => simp [intOf]; omega
        · obtain ⟨z, HZ⟩ : ∃ z, Hid (x * 64 + v = z) := ⟨_, Lib.hid rfl⟩
          have hzl : z < 4096 := by have := HZ.out; omega
          have eor : bits BinOp.or IntKind.i64 ((x : Int) * 64) (v : Int) = (z : Int) := by rw [or_six x v (by omega) (by omega) (by omega) (by omega)]; have := HZ.out; omega
          have hz0 : 0 ≤ (z : Int) := by omega
          obtain ⟨q, HQ⟩ : ∃ q, Hid (UInt8.ofNat (x * 64 + v) = q) := ⟨_, Lib.hid rfl⟩
          have eb : IntKind.u8.wrap (z : Int) = (q.toNat : Int) := by rw [wrap_u8, ← HQ.out, HZ.out]
          have emask : bits BinOp.and IntKind.i64 (z : Int) 0 = 0 := i64_and0 _ (by omega) (by omega)
          go_wp2_with fail
          refine (index_letter_some _ _ _ HV.out).mono ?_
          rintro e w1 ⟨rfl, rfl⟩
          go_wp2_with fail
          refine (writeByte_any _ _ pre _ _ hB (by omega) hbr.size).mono ?_
          rintro e w1 ⟨rfl, hB1, hb1⟩
          go_wp2_with fail
          go_roundw
          case rel => exact ⟨k + 1, 0, 0, pre ++ [q], by omega, by go_num, rfl, rfl, .inl ⟨rfl, rfl⟩, hB1, Lib.hid (r64_step2 hlt HC.out HV.out HQ.out HP.out), by simp; omega, hbr.trans hb1⟩
          case measure => simp [intOf]; omega
        · obtain ⟨z, HZ⟩ : ∃ z, Hid (x * 64 + v = z) := ⟨_, Lib.hid rfl⟩
          have hzl : z < 4096 := by have := HZ.out; omega
          have eor : bits BinOp.or IntKind.i64 ((x : Int) * 64) (v : Int) = (z : Int) := by rw [or_six x v (by omega) (by omega) (by omega) (by omega)]; have := HZ.out; omega
          have hz0 : 0 ≤ (z : Int) := by omega
          obtain ⟨q, HQ⟩ : ∃ q, Hid (UInt8.ofNat (x * 16 + v / 4) = q) := ⟨_, Lib.hid rfl⟩
          have eb : IntKind.u8.wrap ((z : Int) / 4) = (q.toNat : Int) := by
            have e1 : (z : Int) / 4 = ((x * 16 + v / 4 : Nat) : Int) := by have := HZ.out; omega
            rw [e1, wrap_u8, ← HQ.out]
          obtain ⟨y, HY⟩ : ∃ y, Hid (v % 4 = y) := ⟨_, Lib.hid rfl⟩
          have hyl : y < 4 := by have := HY.out; omega
          have emask : bits BinOp.and IntKind.i64 (z : Int) 3 = (y : Int) := by rw [i64_and3 _ (by omega) (by omega)]; have := HY.out; have := HZ.out; omega
          go_wp2_with fail
          refine (index_letter_some _ _ _ HV.out).mono ?_
          rintro e w1 ⟨rfl, rfl⟩
          go_wp2_with fail
          refine (writeByte_any _ _ pre _ _ hB (by omega) hbr.size).mono ?_
          rintro e w1 ⟨rfl, hB1, hb1⟩
          go_wp2_with fail
          go_roundw
          case rel => exact ⟨k + 1, 2, y, pre ++ [q], by omega, by go_num, rfl, rfl, .inr (.inl ⟨rfl, hyl⟩), hB1, Lib.hid (r64_step4 hlt HC.out HV.out HQ.out HY.out HP.out), by simp; omega, hbr.trans hb1⟩
          case measure => simp [intOf]; omega
        · obtain ⟨z, HZ⟩ : ∃ z, Hid (x * 64 + v = z) := ⟨_, Lib.hid rfl⟩
          have hzl : z < 4096 := by have := HZ.out; omega
          have eor : bits BinOp.or IntKind.i64 ((x : Int) * 64) (v : Int) = (z : Int) := by rw [or_six x v (by omega) (by omega) (by omega) (by omega)]; have := HZ.out; omega
          have hz0 : 0 ≤ (z : Int) := by omega
          obtain ⟨q, HQ⟩ : ∃ q, Hid (UInt8.ofNat (x * 4 + v / 16) = q) := ⟨_, Lib.hid rfl⟩
          have eb : IntKind.u8.wrap ((z : Int) / 16) = (q.toNat : Int) := by
            have e1 : (z : Int) / 16 = ((x * 4 + v / 16 : Nat) : Int) := by have := HZ.out; omega
            rw [e1, wrap_u8, ← HQ.out]
          obtain ⟨y, HY⟩ : ∃ y, Hid (v % 16 = y) := ⟨_, Lib.hid rfl⟩
          have hyl : y < 16 := by have := HY.out; omega
          have emask : bits BinOp.and IntKind.i64 (z : Int) 15 = (y : Int) := by rw [i64_and15 _ (by omega) (by omega)]; have := HY.out; have := HZ.out; omega
          go_wp2_with fail
          refine (index_letter_some _ _ _ HV.out).mono ?_
          rintro e w1 ⟨rfl, rfl⟩
          go_wp2_with fail
          refine (writeByte_any _ _ pre _ _ hB (by omega) hbr.size).mono ?_
          rintro e w1 ⟨rfl, hB1, hb1⟩
          go_wp2_with fail
          go_roundw
          case rel => exact ⟨k + 1, 4, y, pre ++ [q], by omega, by go_num, rfl, rfl, .inr (.inr (.inl ⟨rfl, hyl⟩)), hB1, Lib.hid (r64_step6 hlt HC.out HV.out HQ.out HY.out HP.out), by simp; omega, hbr.trans hb1⟩
          case measure => simp [intOf]; omega
    · have HE := Lib.hid (r64_end hlt HP.out)
      by_cases h6 : N < 6
      · by_cases hx0 : x = 0
        · subst hx0
          have hG := Lib.hid (read_good (HE.out.trans (if_pos ⟨h6, rfl⟩)))
          clear hcs
          go_wp2_with fail
          refine (bldString_any _ _ pre _ hB hbr.size).mono ?_
          rintro e w1 ⟨rfl, hb1⟩
          go_wp2_with fail
          go_ret2
          exact ⟨ret_se hG.out.1.symm hG.out.2.symm, hbr.trans hb1⟩
        · have hG := Lib.hid (read_bad (HE.out.trans (if_neg (fun h => hx0 h.2))))
          have hxb : ((x : Int) != 0) = true := by rw [bne_iff_ne]; omega
          clear hcs hx0
          go_wp2_with fail
          go_ret2
          exact ⟨ret_se hG.out.1.symm hG.out.2.symm, hbr⟩
      · have hG := Lib.hid (read_bad (HE.out.trans (if_neg (fun h => h6 h.1))))
        clear hcs
        go_wp2_with fail
        go_ret2
        exact ⟨ret_se hG.out.1.symm hG.out.2.symm, hbr⟩
end Go.Proofs.YtnkblimmlkidcaaDoor
