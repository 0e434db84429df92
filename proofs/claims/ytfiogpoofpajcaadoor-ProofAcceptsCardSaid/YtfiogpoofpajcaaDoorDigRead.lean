/- digest.ReadHex and its reference. -/
import Derived.Test.YtfiogpoofpajcaaDoorDigHex
import Derived.Laws.BitsAllLaws
namespace Go.Proofs.YtfiogpoofpajcaaDoor
open Go.RowKit

/-- The value of a hexadecimal digit. -/
def hexVal (c : UInt8) : Option Nat := if 48 ≤ c.toNat ∧ c.toNat ≤ 57 then some (c.toNat - 48) else if 97 ≤ c.toNat ∧ c.toNat ≤ 102 then some (c.toNat - 87) else none
theorem hexVal_lt {c : UInt8} {d : Nat} (h : hexVal c = some d) : d < 16 := by
  unfold hexVal at h
  split at h
  · cases h; omega
  · split at h
    · cases h; omega
    · cases h
def readStep (o : Option Nat) (c : UInt8) : Option Nat := o.bind fun n => (hexVal c).map fun d => n * 16 + d
/-- The number with hexadecimal digits. -/
def readL (l : List UInt8) : Option Nat := l.foldl readStep (some 0)
theorem readStep_none (l : List UInt8) : l.foldl readStep none = none := by
  induction l with
  | nil => rfl
  | cons c l ih => exact ih
theorem readL_snoc (s : ByteArray) (k : Nat) (h : k < s.size) : readL (s.data.toList.take (k + 1)) = readStep (readL (s.data.toList.take k)) s[k] := by
  rw [take_snoc s k h]; unfold readL; rw [List.foldl_append]; rfl
theorem readL_dead (s : ByteArray) (k : Nat) (h : readL (s.data.toList.take k) = none) : readL s.data.toList = none := by
  conv => lhs; rw [← List.take_append_drop k s.data.toList]
  unfold readL at h ⊢
  rw [List.foldl_append, h, readStep_none]
theorem readL_lt (l : List UInt8) : ∀ {n : Nat}, readL l = some n → n < 16 ^ l.length := by
  suffices h : ∀ (l : List UInt8) (m k : Nat), m < 16 ^ k → ∀ n, l.foldl readStep (some m) = some n → n < 16 ^ (k + l.length) by
    intro n hn
    have := h l 0 0 (by omega) n hn
    simpa using this
  intro l
  induction l with
  | nil => intro m k hm n hn; cases hn; simpa using hm
  | cons c l ih =>
    intro m k hm n hn
    rw [List.foldl_cons] at hn
    cases hc : hexVal c with
    | none =>
      have e : readStep (some m) c = none := by simp [readStep, hc]
      rw [e, readStep_none] at hn
      cases hn
    | some d =>
      have e : readStep (some m) c = some (m * 16 + d) := by simp [readStep, hc]
      rw [e] at hn
      have hd := hexVal_lt hc
      have := ih (m * 16 + d) (k + 1) (by rw [Nat.pow_succ]; omega) n hn
      have e2 : k + (c :: l).length = k + 1 + l.length := by simp; omega
      rw [e2]; exact this
theorem readL_room {s : ByteArray} {k m : Nat} (hk : k < 16) (h : readL (s.data.toList.take k) = some m) : m * 16 < 18446744073709551616 := by
  have h1 := readL_lt _ h
  have h2 : (s.data.toList.take k).length ≤ 15 := by rw [List.length_take]; omega
  have h3 : 16 ^ (s.data.toList.take k).length ≤ 16 ^ 15 := Nat.pow_le_pow_right (by omega) h2
  have h4 : (16 : Nat) ^ 15 = 1152921504606846976 := by decide
  omega
theorem readL_range {s : ByteArray} {m : Nat} (hs : s.size = 16) (h : readL s.data.toList = some m) : m < 18446744073709551616 := by
  have h1 := readL_lt _ h
  have h2 : s.data.toList.length = 16 := by simpa using hs
  rw [h2] at h1
  have h4 : (16 : Nat) ^ 16 = 18446744073709551616 := by decide
  omega
theorem or_step (m d : Nat) (hm : m * 16 < 18446744073709551616) (hd : d < 16) : bits BinOp.or IntKind.u64 (IntKind.u64.wrap ((m : Int) * 16)) (d : Int) = ((m * 16 + d : Nat) : Int) := by
  have e : IntKind.u64.wrap ((m : Int) * 16) = ((m * 16 : Nat) : Int) := by rw [IntKind.wrap_u64]; omega
  rw [e, u64_or_nat _ _ hm (by omega), nat_join 4 (m * 16) d (by omega) (by omega)]
theorem add_step (m d : Nat) (hm : m * 16 < 18446744073709551616) (hd : d < 16) : IntKind.u64.wrap (IntKind.u64.wrap ((m : Int) * 16) + (d : Int)) = ((m * 16 + d : Nat) : Int) := by
  rw [IntKind.wrap_u64, IntKind.wrap_u64]; omega
theorem add_step' (m : Nat) (x : Int) (d : Nat) (hm : m * 16 < 18446744073709551616) (hd : d < 16) (hx : x = d) : IntKind.u64.wrap (IntKind.u64.wrap ((m : Int) * 16) + x) = ((m * 16 + d : Nat) : Int) := by
  rw [hx]; exact add_step m d hm hd
def readHexO (s : ByteArray) : Option Nat := if s.size = 16 then readL s.data.toList else none
def readHexN (s : ByteArray) : Int := ((readHexO s).getD 0 : Nat)
def readHexE (s : ByteArray) : Int := if (readHexO s).isSome then 0 else 4

/-- The last place below k at which the table has a byte. -/
def findV (c : UInt8) : Nat → Int
  | 0 => -1
  | k + 1 => if hexDig k = c then (k : Int) else findV c k
theorem findV_all (c : UInt8) : findV c 16 = match hexVal c with | none => -1 | some d => (d : Int) := by
  have : ∀ n : Fin 256, findV (UInt8.ofNat n.1) 16 = match hexVal (UInt8.ofNat n.1) with | none => -1 | some d => (d : Int) := by decide +kernel
  have h := this ⟨c.toNat, c.toNat_lt⟩
  simpa using h

/-- digits[k], the whole array read out first. -/
theorem idx_dig (k : Nat) (hk : k < 16) (w : World) : (Instr.index 65 (.agg digCells) (.int .i64 (k : Int))).run Tryd.prog w = .ok (.int .u8 ((hexDig k).toNat : Int)) w := by
  rcases k with _|_|_|_|_|_|_|_|_|_|_|_|_|_|_|_|k <;> first | omega | kernel_rfl

set_option maxHeartbeats 1000000 in
theorem readhex_any (s : ByteArray) (w : World) (hd : DigOk w) (_hs : s.size ≤ 9223372036854775807) :
    Calls Tryd.prog 44 #[.string s] w fun e w' => e = .returned (.tuple #[.int .u64 (readHexN s), .int .i64 (readHexE s)]) ∧ w = w' := by
  by_cases h16 : s.size = 16
  · have HO : Hid (readHexO s = readL s.data.toList) := by show _ = _; simp [readHexO, h16]
    have HN : Hid (s.size = 16) := h16
    have hn : s.size ≤ 16 := by omega
    obtain ⟨tt, fr, hg1⟩ := hd
    go_enter Tryd.func44, Tryd.ntmps44
    go_wp2
    clear h16
    go_loop [4, 14] (fun n i => ∃ k m : Nat, k ≤ 16 ∧ i = .int .i64 k ∧ n = .int .u64 m ∧ readL (s.data.toList.take k) = some m) (fun _ i => 16 - (intOf i).toNat)
    case atStart => exact ⟨0, 0, by omega, rfl, rfl, rfl⟩
    case round =>
      obtain ⟨k, m, hk, rfl, rfl, hm⟩ := hrel
      have HM := Lib.hid hm
      clear hm
      by_cases hlt : k < 16
      · have hlt2 : k < s.size := by rw [HN.out]; exact hlt
        go_wp2_with (refine wpList_load_row rfl 65 _ rfl 0 rfl tt _ fr _ hg1 Tryd.underlying65 rfl (by kernel_rfl) ?_)
        go_loop [6, 18] (fun v j => ∃ q : Nat, q ≤ 16 ∧ j = .int .i64 q ∧ v = .int .i64 (findV s[k] q)) (fun _ j => 16 - (intOf j).toNat)
        case atStart => exact ⟨0, by omega, rfl, rfl⟩
        case round =>
          obtain ⟨q, hq, rfl, rfl⟩ := hrel
          by_cases hqt : q < 16
          · have hidx := idx_dig q hqt
            have HF : Hid (findV s[k] (q + 1) = if hexDig q = s[k] then (q : Int) else findV s[k] q) := rfl
            by_cases he : hexDig q = s[k]
            · have hb : (((hexDig q).toNat : Int) == (s[k].toNat : Int)) = true := by rw [he]; simp
              have HE := Lib.hid he
              clear he
              go_wp2
              go_round
              case rel => exact ⟨q + 1, by omega, by go_num, by rw [HF.out, if_pos HE.out]⟩
              case measure => simp [intOf]; omega
            · have hb : (((hexDig q).toNat : Int) == (s[k].toNat : Int)) = false := by
                rw [beq_eq_false_iff_ne]
                intro h
                exact he (UInt8.toNat_inj.1 (by omega))
              have HE := Lib.hid he
              clear he
              go_wp2
              go_round
              case rel => exact ⟨q + 1, by omega, by go_num, by rw [HF.out, if_neg HE.out]⟩
              case measure => simp [intOf]; omega
          · have HA := Lib.hid (findV_all s[k])
            have HQ : Hid (q = 16) := by show _ = _; omega
            have HS := Lib.hid (readL_snoc s k hlt2)
            cases hv : hexVal s[k] with
            | none =>
              have e : Hid (findV s[k] q = -1) := by show _ = _; rw [HQ.out, HA.out, hv]
              have HV := Lib.hid hv
              clear hv
              rw [e.out]
              go_wp2
              go_ret2
              have hf : readHexO s = none := by
                rw [HO.out]
                apply readL_dead s (k + 1)
                rw [HS.out, HM.out]
                simp [readStep, HV.out]
              refine ⟨?_, rfl⟩
              simp [readHexN, readHexE, hf]
            | some d =>
              have e : Hid (findV s[k] q = (d : Int)) := by show _ = _; rw [HQ.out, HA.out, hv]
              have hd16 := hexVal_lt hv
              have HV := Lib.hid hv
              clear hv
              have HO2 := Lib.hid (or_step m d (readL_room hlt HM.out) hd16)
              rw [e.out]
              go_wp2
              go_round
              case rel => exact ⟨k + 1, m * 16 + d, by omega, by go_num, by rw [HO2.out], by rw [HS.out, HM.out]; simp [readStep, HV.out]⟩
              case measure => simp [intOf]; omega
      · have HF : Hid (readHexO s = some m) := by
          show _ = _
          rw [HO.out, ← HM.out, List.take_of_length_le]
          have := HN.out
          simp; omega
        go_wp2
        go_ret2
        exact ⟨by simp [readHexN, readHexE, HF.out], rfl⟩
  · have HO : Hid (readHexO s = none) := by show _ = _; simp [readHexO, h16]
    have hb : ((s.size : Int) != 16) = true := by simp; omega
    clear h16
    go_enter Tryd.func44, Tryd.ntmps44
    go_wp2
    go_ret2
    exact ⟨by simp [readHexN, readHexE, HO.out], rfl⟩

set_option maxHeartbeats 1000000 in
theorem rreadhex_any (s : ByteArray) (w : World) (_hs : s.size ≤ 9223372036854775807) :
    Calls Tryd.prog 46 #[.string s] w fun e w' => e = .returned (.tuple #[.int .u64 (readHexN s), .int .i64 (readHexE s)]) ∧ w = w' := by
  by_cases h16 : s.size = 16
  · have HO : Hid (readHexO s = readL s.data.toList) := by show _ = _; simp [readHexO, h16]
    have HN : Hid (s.size = 16) := h16
    have hn : s.size ≤ 16 := by omega
    go_enter Tryd.func46, Tryd.ntmps46
    go_wp2
    clear h16
    go_loop [4, 5] (fun n i => ∃ k m : Nat, k ≤ 16 ∧ i = .int .i64 k ∧ n = .int .u64 m ∧ readL (s.data.toList.take k) = some m) (fun _ i => 16 - (intOf i).toNat)
    case atStart => exact ⟨0, 0, by omega, rfl, rfl, rfl⟩
    case round =>
      obtain ⟨k, m, hk, rfl, rfl, hm⟩ := hrel
      have HM := Lib.hid hm
      clear hm
      by_cases hlt : k < 16
      · have hlt2 : k < s.size := by rw [HN.out]; exact hlt
        have HS := Lib.hid (readL_snoc s k hlt2)
        by_cases hc1 : 48 ≤ s[k].toNat ∧ s[k].toNat ≤ 57
        · obtain ⟨hc1a, hc1b⟩ := hc1
          have HV : Hid (hexVal s[k] = some (s[k].toNat - 48)) := by show _ = _; simp [hexVal, hc1a, hc1b]
          have HB : Hid (m * 16 < 18446744073709551616) := readL_room hlt HM.out
          go_wp2
          go_round
          case rel => exact ⟨k + 1, m * 16 + (s[k].toNat - 48), by omega, by go_num, congrArg (Value.int IntKind.u64) (add_step' m _ (s[k].toNat - 48) HB.out (by omega) (by omega)), by rw [HS.out, HM.out]; simp [readStep, HV.out]⟩
          case measure => simp [intOf]; omega
        · by_cases hc2 : 97 ≤ s[k].toNat ∧ s[k].toNat ≤ 102
          · have HV : Hid (hexVal s[k] = some (s[k].toNat - 87)) := by show _ = _; simp only [hexVal, if_neg hc1, if_pos hc2]
            obtain ⟨hc2a, hc2b⟩ := hc2
            clear hc1
            have hc3 : ¬ s[k].toNat ≤ 57 := by omega
            have HB : Hid (m * 16 < 18446744073709551616) := readL_room hlt HM.out
            go_wp2
            go_round
            case rel => exact ⟨k + 1, m * 16 + (s[k].toNat - 87), by omega, by go_num, congrArg (Value.int IntKind.u64) (add_step' m _ (s[k].toNat - 87) HB.out (by omega) (by omega)), by rw [HS.out, HM.out]; simp [readStep, HV.out]⟩
            case measure => simp [intOf]; omega
          · have HV : Hid (hexVal s[k] = none) := by show _ = _; simp only [hexVal, if_neg hc1, if_neg hc2]
            have hf : readHexO s = none := by
              rw [HO.out]
              apply readL_dead s (k + 1)
              rw [HS.out, HM.out]
              simp [readStep, HV.out]
            have HF := Lib.hid hf
            clear hf
            have hcs : s[k].toNat < 48 ∨ (57 < s[k].toNat ∧ s[k].toNat < 97) ∨ 102 < s[k].toNat := by omega
            clear hc1 hc2
            rcases hcs with hc | ⟨hc, hc'⟩ | hc
            all_goals
              go_wp2
              go_ret2
              exact ⟨by simp [readHexN, readHexE, HF.out], rfl⟩
      · have HF : Hid (readHexO s = some m) := by
          show _ = _
          rw [HO.out, ← HM.out, List.take_of_length_le]
          have := HN.out
          simp; omega
        go_wp2
        go_ret2
        exact ⟨by simp [readHexN, readHexE, HF.out], rfl⟩
  · have HO : Hid (readHexO s = none) := by show _ = _; simp [readHexO, h16]
    have hb : ((s.size : Int) != 16) = true := by simp; omega
    clear h16
    go_enter Tryd.func46, Tryd.ntmps46
    go_wp2
    go_ret2
    exact ⟨by simp [readHexN, readHexE, HO.out], rfl⟩
end Go.Proofs.YtfiogpoofpajcaaDoor
