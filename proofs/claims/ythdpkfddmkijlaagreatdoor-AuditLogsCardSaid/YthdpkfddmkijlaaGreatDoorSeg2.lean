/- Joined: CodEscW, CodRef64, CodRefEsc, CodRefUn, CodRefCut, CodJoinP. -/
import Derived.Test.YthdpkfddmkijlaaGreatDoorSeg1
import Derived.Deep.QuietTactic
import Derived.BigQuiet
import Derived.IntWalk
import Derived.Laws.OwnMore
import Derived.Laws.IdiomStrings
import Derived.Lib.BufferRead
import Derived.Deep.AppendLies
import Derived.Deep.RegionLaw
import Derived.Deep.RegionHeld3
/- codec.Escape and codec.Unescape compute escS, unescS. -/
namespace Go.Proofs.YthdpkfddmkijlaaGreatDoor
open Go.RowKit

def sepTab : ByteArray := ⟨#[37, 124, 44, 61, 59, 34]⟩
def hexTab : ByteArray := ⟨#[48, 49, 50, 51, 52, 53, 54, 55, 56, 57, 65, 66, 67, 68, 69, 70]⟩
/-- A separator. -/
def sepB (c : UInt8) : Bool := decide (c.toNat = 37 ∨ c.toNat = 124 ∨ c.toNat = 44 ∨ c.toNat = 61 ∨ c.toNat = 59 ∨ c.toNat = 34)
theorem plainB_eq (c : UInt8) : plainB c = (decide (33 ≤ c.toNat) && (decide (c.toNat ≤ 126) && !sepB c)) := by
  have : ∀ n : Fin 256, plainB (UInt8.ofNat n.1) = (decide (33 ≤ (UInt8.ofNat n.1).toNat) && (decide ((UInt8.ofNat n.1).toNat ≤ 126) && !sepB (UInt8.ofNat n.1))) := by decide +kernel
  have h := this ⟨c.toNat, c.toNat_lt⟩
  simpa using h
theorem sep_index (c : UInt8) : (sepB c = true → 0 ≤ Lib.indexByte sepTab.data.toList c) ∧ (sepB c = false → Lib.indexByte sepTab.data.toList c = -1) := by
  have : ∀ n : Fin 256, (sepB (UInt8.ofNat n.1) = true → 0 ≤ Lib.indexByte sepTab.data.toList (UInt8.ofNat n.1)) ∧ (sepB (UInt8.ofNat n.1) = false → Lib.indexByte sepTab.data.toList (UInt8.ofNat n.1) = -1) := by decide +kernel
  have h := this ⟨c.toNat, c.toNat_lt⟩
  simpa using h
theorem hex_index (c : UInt8) : Lib.indexByte hexTab.data.toList c = match hexV c with | none => -1 | some v => (v : Int) := by
  have : ∀ n : Fin 256, Lib.indexByte hexTab.data.toList (UInt8.ofNat n.1) = match hexV (UInt8.ofNat n.1) with | none => -1 | some d => (d : Int) := by decide +kernel
  have h := this ⟨c.toNat, c.toNat_lt⟩
  simpa using h
theorem hexTab_el (d : Nat) (h : d < 16) (h' : d < hexTab.size) : hexTab[d] = hexU d := by
  have : ∀ d : Fin 16, hexTab.data.toList[d.1]? = some (hexU d.1) := by decide +kernel
  have := this ⟨d, h⟩
  rw [List.getElem?_eq_getElem (by simpa using h')] at this
  exact Option.some.inj this
theorem hex_lit (d : Nat) (h : d < 16) : (⟨#[48, 49, 50, 51, 52, 53, 54, 55, 56, 57, 65, 66, 67, 68, 69, 70]⟩ : ByteArray)[d]'h = hexU d := hexTab_el d h h
theorem hexV_lt {c : UInt8} {v : Nat} (h : hexV c = some v) : v < 16 := (hexU_val h).2
theorem or_four (x c : Int) (h0 : 0 ≤ x) (hx : x < 1000000) (hc0 : 0 ≤ c) (hc : c < 16) : bits .or .i64 (x * 16) c = x * 16 + c :=
  bits_join .i64 62 (by decide) wraps_i64 4 (x * 16) c (by omega) (by omega) (by omega) (by omega) (by omega) (by omega)
/-- strings.IndexByte in the separators. -/
theorem index_sep (c : UInt8) (w : World) :
    Calls Tryz.prog 105 #[.string sepTab, .int .u8 (c.toNat : Int)] w fun e w' => e = .returned (.int .i64 (Lib.indexByte sepTab.data.toList c)) ∧ w = w' := by
  refine (Tryz.strings_IndexByte sepTab (c.toNat : Int) w).mono ?_
  rintro e w' ⟨rfl, rfl⟩
  exact ⟨ret_int (by simp), rfl⟩
theorem index_hex (c : UInt8) (w : World) :
    Calls Tryz.prog 105 #[.string hexTab, .int .u8 (c.toNat : Int)] w fun e w' => e = .returned (.int .i64 (match hexV c with | none => -1 | some v => (v : Int))) ∧ w = w' := by
  refine (Tryz.strings_IndexByte hexTab (c.toNat : Int) w).mono ?_
  rintro e w' ⟨rfl, rfl⟩
  refine ⟨ret_int ?_, rfl⟩
  rw [← hex_index]
  simp
theorem index_hexI (c : UInt8) (w : World) :
    Calls Tryz.prog 105 #[.string hexTab, .int .u8 (c.toNat : Int)] w fun e w' => e = .returned (.int .i64 (Lib.indexByte hexTab.data.toList c)) ∧ w = w' := by
  refine (Tryz.strings_IndexByte hexTab (c.toNat : Int) w).mono ?_
  rintro e w' ⟨rfl, rfl⟩
  exact ⟨ret_int (by simp), rfl⟩
theorem index_hex_at (c : UInt8) (z : Int) (w : World) (h : Lib.indexByte hexTab.data.toList c = z) :
    Calls Tryz.prog 105 #[.string hexTab, .int .u8 (c.toNat : Int)] w fun e w' => e = .returned (.int .i64 z) ∧ w = w' := by
  have := index_hexI c w; rw [h] at this; exact this
theorem index_hex_none (c : UInt8) (w : World) (h : hexV c = none) :
    Calls Tryz.prog 105 #[.string hexTab, .int .u8 (c.toNat : Int)] w fun e w' => e = .returned (.int .i64 (-1)) ∧ w = w' := by
  have := index_hex c w; rw [h] at this; exact this
theorem index_hex_some (c : UInt8) (v : Nat) (w : World) (h : hexV c = some v) :
    Calls Tryz.prog 105 #[.string hexTab, .int .u8 (c.toNat : Int)] w fun e w' => e = .returned (.int .i64 (v : Int)) ∧ w = w' := by
  have := index_hex c w; rw [h] at this; exact this

theorem plain_of {c : UInt8} {b : Bool} (h : b = (decide (33 ≤ c.toNat) && (decide (c.toNat ≤ 126) && !sepB c))) : b = plainB c := by rw [plainB_eq, h]
set_option maxHeartbeats 1000000 in
theorem cplain_any (c : UInt8) (w : World) :
    Calls Tryz.prog 97 #[.int .u8 (c.toNat : Int)] w fun e w' => e = .returned (.bool (plainB c)) ∧ w = w' := by
  have hcs : c.toNat < 33 ∨ 126 < c.toNat ∨ (33 ≤ c.toNat ∧ c.toNat ≤ 126) := by omega
  go_enter Tryz.func97, Tryz.ntmps97
  rcases hcs with h | h | ⟨h1, h2⟩
  · go_wp2_with fail
    go_ret
    exact ⟨ret_bool (plain_of (by simp [Nat.not_le.2 h])), rfl⟩
  · go_wp2_with fail
    go_ret
    exact ⟨ret_bool (plain_of (by simp [Nat.not_le.2 h])), rfl⟩
  · cases hs : sepB c with
    | true =>
      have h0 := (sep_index c).1 hs
      obtain ⟨i, hi⟩ := Int.eq_ofNat_of_zero_le h0
      have HI := Lib.hid hi
      have HS := Lib.hid hs
      clear hi h0 hs
      go_wp2_with fail
      refine (index_sep c w).mono ?_
      rintro e w1 ⟨rfl, rfl⟩
      rw [HI.out]
      go_wp2_with fail
      go_ret
      exact ⟨ret_bool (plain_of (by simp [HS.out])), rfl⟩
    | false =>
      have h0 := (sep_index c).2 hs
      have HI := Lib.hid h0
      have HS := Lib.hid hs
      clear h0 hs
      go_wp2_with fail
      refine (index_sep c w).mono ?_
      rintro e w1 ⟨rfl, rfl⟩
      rw [HI.out]
      go_wp2_with fail
      go_ret
      exact ⟨ret_bool (plain_of (by simp [HS.out, h1, h2])), rfl⟩

theorem esc_step1 {s : ByteArray} {k : Nat} {pre L : List UInt8} (hk : k < s.size) (hp : plainB s[k] = true) (HP : pre ++ escL (s.data.toList.drop k) = L) :
    (pre ++ [s[k]]) ++ escL (s.data.toList.drop (k + 1)) = L := by
  rw [drop_cons s k hk, escL, escC, if_pos hp] at HP
  rw [← HP]; simp
theorem esc_step3 {s : ByteArray} {k c a b : Nat} {pre L : List UInt8} (hk : k < s.size) (hp : plainB s[k] = false) (hc : s[k].toNat = c) (ha : c / 16 = a) (hb : c % 16 = b) (HP : pre ++ escL (s.data.toList.drop k) = L) :
    (pre ++ [37] ++ [hexU a] ++ [hexU b]) ++ escL (s.data.toList.drop (k + 1)) = L := by
  rw [drop_cons s k hk, escL, escC, if_neg (by rw [hp]; decide), hc, ha, hb] at HP
  rw [← HP]; simp
theorem esc_end {s : ByteArray} {k : Nat} {pre : List UInt8} (hk : ¬ k < s.size) (HP : pre ++ escL (s.data.toList.drop k) = escL s.data.toList) : (⟨pre.toArray⟩ : ByteArray) = escS s := by
  rw [List.drop_of_length_le (by simp; have : s.size = s.data.size := rfl; omega), escL, List.append_nil] at HP
  rw [escS, ← HP]

set_option maxHeartbeats 2000000 in
theorem esc_any (s : ByteArray) (w : World) (hs : s.size ≤ 1000000000) :
    Calls Tryz.prog 76 #[.string s] w fun e w' => e = .returned (.string (escS s)) ∧ Below w.heap.size w w' := by
  go_enter Tryz.func76, Tryz.ntmps76
  go_wp2_with fail
  go_loopw [4, 5, 8] (fun _ _ j wr => ∃ (k : Nat) (pre : List UInt8), k ≤ s.size ∧ j = .int .i64 k ∧ Bld w.heap.size w.heap.size pre wr ∧ Hid (pre ++ escL (s.data.toList.drop k) = escL s.data.toList) ∧ pre.length ≤ 3 * k ∧ Below w.heap.size w wr) (fun _ _ i _ => s.size - (intOf i).toNat)
  case atStart => exact ⟨0, [], Nat.zero_le _, rfl, Bld.fresh w, Lib.hid rfl, Nat.zero_le _, (Below.refl _ _).alloc (Nat.le_refl _) _⟩
  case round =>
    obtain ⟨k, pre, hk, rfl, hB, HP, hpl, hbr⟩ := hrel
    by_cases hlt : k < s.size
    · cases hp : plainB s[k] with
      | true =>
        have HQ := Lib.hid hp
        go_wp2_with fail
        refine (cplain_any s[k] wr).mono ?_
        rintro e w1 ⟨rfl, rfl⟩
        rw [hp]
        clear hp
        go_wp2_with fail
        refine (writeByte_any _ _ pre _ _ hB (by omega) hbr.size).mono ?_
        rintro e w1 ⟨rfl, hB1, hb1⟩
        go_wp2_with fail
        go_roundw
        case rel => exact ⟨k + 1, pre ++ [s[k]], by omega, by go_num, hB1, Lib.hid (esc_step1 hlt HQ.out HP.out), by simp; omega, hbr.trans hb1⟩
        case measure => simp [intOf]; omega
      | false =>
        have HQ := Lib.hid hp
        obtain ⟨c, hc⟩ : ∃ c, s[k].toNat = c := ⟨_, rfl⟩
        have HC := Lib.hid hc
        have hcl : c < 256 := hc ▸ s[k].toNat_lt
        obtain ⟨a, HA⟩ : ∃ a, Hid (c / 16 = a) := ⟨_, Lib.hid rfl⟩
        have hal : a < 16 := by have := HA.out; omega
        have ea : (c : Int) / 16 = (a : Int) := by have := HA.out; omega
        obtain ⟨b, HB⟩ : ∃ b, Hid (c % 16 = b) := ⟨_, Lib.hid rfl⟩
        have hbl : b < 16 := by have := HB.out; omega
        have eb : bits BinOp.and IntKind.u8 (c : Int) 15 = (b : Int) := by rw [u8_and15 _ (by omega) (by omega)]; have := HB.out; omega
        have hcp := cplain_any s[k] wr
        rw [hc, hp] at hcp
        clear hp
        go_wp2_with fail
        refine hcp.mono ?_
        rintro e w1 ⟨rfl, rfl⟩
        go_wp2_with fail
        refine (writeByte_any _ _ pre 37 _ hB (by omega) hbr.size).mono ?_
        rintro e w1 ⟨rfl, hB1, hb1⟩
        have hbr1 := hbr.trans hb1
        have eA := hex_lit a hal
        have eB := hex_lit b hbl
        go_wp2_with fail
        refine (writeByte_any _ _ _ _ _ hB1 (by simp; omega) hbr1.size).mono ?_
        rintro e w2 ⟨rfl, hB2, hb2⟩
        have hbr2 := hbr1.trans hb2
        go_wp2_with fail
        refine (writeByte_any _ _ _ _ _ hB2 (by simp; omega) hbr2.size).mono ?_
        rintro e w3 ⟨rfl, hB3, hb3⟩
        go_wp2_with fail
        have hP := esc_step3 hlt HQ.out HC.out HA.out HB.out HP.out
        go_roundw
        case rel => exact ⟨k + 1, _, by omega, by go_num, hB3, Lib.hid hP, by simp; omega, hbr2.trans hb3⟩
        case measure => simp [intOf]; omega
    · go_wp2_with fail
      refine (bldString_any _ _ pre _ hB hbr.size).mono ?_
      rintro e w1 ⟨rfl, hb1⟩
      go_wp2_with fail
      go_ret
      exact ⟨ret_str (esc_end hlt HP.out), hbr.trans hb1⟩

theorem quiet_eq {P : Program} {f : FuncId} {args : Array Value} {w : World} {n : Nat} {v : Value}
    (h : Calls P f args (w.drewN n) fun e w' => e = .returned v ∧ w.drewN n = w') : Calls P f args (w.drewN n) fun e w'' => e = .returned v ∧ ∃ m, w'' = w.drewN m :=
  h.mono fun _ _ ⟨he, hm⟩ => ⟨he, n, hm.symm⟩
theorem Bld.drewN {B b : Nat} {l : List UInt8} {w : World} (h : Bld B b l w) {n : Nat} : Bld B b l (w.drewN n) := h
theorem un_plain {s : ByteArray} {k : Nat} {pre : List UInt8} {L : Option (List UInt8)} (hk : k < s.size) (hp : plainB s[k] = true) (HP : (unE (s.data.toList.drop k) 0).map (pre ++ ·) = L) :
    (unE (s.data.toList.drop (k + 1)) 0).map ((pre ++ [s[k]]) ++ ·) = L := by
  rw [drop_cons s k hk, unE, if_pos hp, r64_snoc] at HP
  exact HP
theorem un_bad {s : ByteArray} {k : Nat} {pre : List UInt8} {L : Option (List UInt8)} (hk : k < s.size) (hp : plainB s[k] = false) (h37 : s[k].toNat ≠ 37) (HP : (unE (s.data.toList.drop k) 0).map (pre ++ ·) = L) : L = none := by
  rw [drop_cons s k hk, unE, if_neg (by rw [hp]; decide), if_neg (by intro e; rw [e] at h37; exact h37 rfl)] at HP
  rw [← HP]; rfl
theorem u37 {c : UInt8} (h : c.toNat = 37) : c = 37 := UInt8.toNat_inj.1 h
theorem un_short {s : ByteArray} {k : Nat} {pre : List UInt8} {L : Option (List UInt8)} (hk : k < s.size) (h37 : s[k].toNat = 37) (hs : ¬ k + 2 < s.size) (HP : (unE (s.data.toList.drop k) 0).map (pre ++ ·) = L) : L = none := by
  rw [drop_cons s k hk, u37 h37, unE, if_neg (by decide), if_pos rfl] at HP
  rw [← HP]
  by_cases h1 : k + 1 < s.size
  · rw [drop_cons s (k + 1) h1, unE, List.drop_of_length_le (by simp; have : s.size = s.data.size := rfl; omega)]
    cases hexV s[k + 1] <;> rfl
  · rw [List.drop_of_length_le (by simp; have : s.size = s.data.size := rfl; omega)]; rfl
theorem un_hex {s : ByteArray} {k : Nat} {pre : List UInt8} {L : Option (List UInt8)} (hs : k + 2 < s.size) (h37 : s[k].toNat = 37) (HP : (unE (s.data.toList.drop k) 0).map (pre ++ ·) = L) :
    (((hexV s[k + 1]).bind fun a => (hexV s[k + 2]).bind fun b => if plainB (UInt8.ofNat (a * 16 + b)) then none else (unE (s.data.toList.drop (k + 3)) 0).map (UInt8.ofNat (a * 16 + b) :: ·)).map (pre ++ ·)) = L := by
  rw [drop_cons s k (by omega), u37 h37, unE, if_neg (by decide), if_pos rfl, drop_cons s (k + 1) (by omega), unE, drop_cons s (k + 2) hs] at HP
  rw [← HP]
  cases hexV s[k + 1] with
  | none => rfl
  | some a => rw [Option.bind_some, Option.bind_some, unE]
theorem un_end {s : ByteArray} {k : Nat} {pre : List UInt8} (hk : ¬ k < s.size) (HP : (unE (s.data.toList.drop k) 0).map (pre ++ ·) = unE s.data.toList 0) : unescO s = some ⟨pre.toArray⟩ := by
  rw [List.drop_of_length_le (by simp; have : s.size = s.data.size := rfl; omega), unE] at HP
  rw [unescO, ← HP]; simp
theorem un_none {s : ByteArray} (h : unE s.data.toList 0 = none) : unescS s = ⟨#[]⟩ ∧ unescE s = 4 := by
  simp [unescS, unescE, unescO, h]; rfl
theorem un_some {s t : ByteArray} (h : unescO s = some t) : unescS s = t ∧ unescE s = 0 := by
  simp [unescS, unescE, h]

set_option maxHeartbeats 4000000 in
theorem unesc_any (s : ByteArray) (w : World) (hs : s.size ≤ 1000000000) :
    Calls Tryz.prog 84 #[.string s] w fun e w' => e = .returned (.tuple #[.string (unescS s), .int .i64 (unescE s)]) ∧ Below w.heap.size w w' := by
  go_enter Tryz.func84, Tryz.ntmps84
  go_wp2_with fail
  go_loopw [5, 6, 7] (fun j _ _ wr => ∃ (k : Nat) (pre : List UInt8), k ≤ s.size ∧ j = .int .i64 k ∧ Bld w.heap.size w.heap.size pre wr ∧ Hid ((unE (s.data.toList.drop k) 0).map (pre ++ ·) = unE s.data.toList 0) ∧ pre.length ≤ k ∧ Below w.heap.size w wr) (fun i _ _ _ => s.size - (intOf i).toNat)
  case atStart => exact ⟨0, [], Nat.zero_le _, rfl, Bld.fresh w, Lib.hid (by simp), Nat.zero_le _, (Below.refl _ _).alloc (Nat.le_refl _) _⟩
  case round =>
    obtain ⟨k, pre, hk, rfl, hB, HP, hpl, hbr⟩ := hrel
    by_cases hlt : k < s.size
    · cases hp : plainB s[k] with
      | true =>
        have HQ := Lib.hid hp
        go_wp2_with fail
        refine (cplain_any s[k] wr).mono ?_
        rintro e w1 ⟨rfl, rfl⟩
        rw [hp]
        clear hp
        go_wp2_with fail
        refine (writeByte_any _ _ pre _ _ hB (by omega) hbr.size).mono ?_
        rintro e w1 ⟨rfl, hB1, hb1⟩
        go_wp2_with fail
        go_roundw
        case rel => exact ⟨k + 1, pre ++ [s[k]], by omega, by go_num, hB1, Lib.hid (un_plain hlt HQ.out HP.out), by simp; omega, hbr.trans hb1⟩
        case measure => simp [intOf]; omega
      | false =>
        have HQ := Lib.hid hp
        by_cases h37 : s[k].toNat = 37
        · have hcp := cplain_any s[k] wr
          have H37 := Lib.hid h37
          rw [h37, hp] at hcp
          clear hp
          by_cases h2 : k + 2 < s.size
          · have HX := un_hex h2 H37.out HP.out
            have hw1 : IntKind.i64.wrap ((k : Int) + 1) = (k : Int) + 1 := IntWalk.i64_in _ (by omega)
            have hb1a : (0 : Int) ≤ (k : Int) + 1 := by omega
            have hb1b : (k : Int) + 1 < (s.size : Int) := by omega
            have hb2a : (0 : Int) ≤ (k : Int) + 2 := by omega
            have hb2b : (k : Int) + 2 < (s.size : Int) := by omega
            have hw2 : IntKind.i64.wrap ((k : Int) + 2) = (k : Int) + 2 := IntWalk.i64_in _ (by omega)
            cases h1 : hexV s[k + 1] with
            | none =>
              rw [h1, Option.bind_none, Option.map_none] at HX
              have hN := Lib.hid (un_none HX.symm)
              have H1 := Lib.hid h1
              clear h1 HX
              obtain ⟨z, hz⟩ : ∃ z, Lib.indexByte hexTab.data.toList s[k + 2] = z := ⟨_, rfl⟩
              have HZ := Lib.hid hz
              clear hz
              go_wp2_with fail
              refine hcp.mono ?_
              rintro e w1 ⟨rfl, rfl⟩
              go_wp2_with fail
              go_quiet (first | (exact quiet_eq (index_hex_none _ _ H1.out)) | (exact quiet_eq (index_hex_at _ _ _ HZ.out)))
              go_wp2_with fail
              go_ret2
              exact ⟨ret_se hN.out.1.symm hN.out.2.symm, below_drewN hbr _⟩
            | some a =>
              rw [h1, Option.bind_some] at HX
              have H1 := Lib.hid h1
              have hal := hexV_lt h1
              clear h1
              cases hv2 : hexV s[k + 2] with
              | none =>
                rw [hv2, Option.bind_none, Option.map_none] at HX
                have hN := Lib.hid (un_none HX.symm)
                have H2 := Lib.hid hv2
                clear hv2 HX
                go_wp2_with fail
                refine hcp.mono ?_
                rintro e w1 ⟨rfl, rfl⟩
                go_wp2_with fail
                go_quiet (first | (exact quiet_eq (index_hex_some _ _ _ H1.out)) | (exact quiet_eq (index_hex_none _ _ H2.out)))
                go_wp2_with fail
                go_ret2
                exact ⟨ret_se hN.out.1.symm hN.out.2.symm, below_drewN hbr _⟩
              | some b =>
                rw [hv2, Option.bind_some] at HX
                have H2 := Lib.hid hv2
                have hbl := hexV_lt hv2
                clear hv2
                obtain ⟨z, HZ⟩ : ∃ z, Hid (a * 16 + b = z) := ⟨_, Lib.hid rfl⟩
                have hz0 : 0 ≤ (z : Int) := by omega
                have eor : bits BinOp.or IntKind.i64 ((a : Int) * 16) (b : Int) = (z : Int) := by rw [or_four a b (by omega) (by omega) (by omega) (by omega)]; have := HZ.out; omega
                obtain ⟨q, HQq⟩ : ∃ q, Hid (UInt8.ofNat (a * 16 + b) = q) := ⟨_, Lib.hid rfl⟩
                have eb : IntKind.u8.wrap (z : Int) = (q.toNat : Int) := by rw [wrap_u8, ← HQq.out, HZ.out]
                rw [HQq.out] at HX
                cases hq : plainB q with
                | true =>
                  rw [hq, if_pos rfl, Option.map_none] at HX
                  have hN := Lib.hid (un_none HX.symm)
                  clear HX
                  go_wp2_with fail
                  refine hcp.mono ?_
                  rintro e w1 ⟨rfl, rfl⟩
                  go_wp2_with fail
                  go_quiet (first | (exact quiet_eq (index_hex_some _ _ _ H1.out)) | (exact quiet_eq (index_hex_some _ _ _ H2.out)))
                  go_wp2_with fail
                  refine (cplain_any q _).mono ?_
                  rintro e w1 ⟨rfl, rfl⟩
                  rw [hq]
                  clear hq
                  go_wp2_with fail
                  go_ret2
                  exact ⟨ret_se hN.out.1.symm hN.out.2.symm, below_drewN hbr _⟩
                | false =>
                  rw [hq, if_neg (by decide), r64_snoc] at HX
                  have HP1 := Lib.hid HX
                  clear HX
                  go_wp2_with fail
                  refine hcp.mono ?_
                  rintro e w1 ⟨rfl, rfl⟩
                  go_wp2_with fail
                  go_quiet (first | (exact quiet_eq (index_hex_some _ _ _ H1.out)) | (exact quiet_eq (index_hex_some _ _ _ H2.out)))
                  go_wp2_with fail
                  refine (cplain_any q _).mono ?_
                  rintro e w1 ⟨rfl, rfl⟩
                  rw [hq]
                  clear hq
                  go_wp2_with fail
                  have hBq : Bld w.heap.size w.heap.size pre (wr.drewN nq) := Bld.drewN hB
                  have hbq := below_drewN hbr nq
                  refine (writeByte_any _ _ pre _ _ hBq (by omega) hbq.size).mono ?_
                  rintro e w1 ⟨rfl, hB1, hb1⟩
                  go_wp2_with fail
                  go_roundw
                  case rel => exact ⟨k + 3, pre ++ [q], by omega, by go_num, hB1, HP1, by simp; omega, hbq.trans hb1⟩
                  case measure => simp [intOf]; omega
          · have hN := Lib.hid (un_none (un_short hlt H37.out h2 HP.out))
            go_wp2_with fail
            refine hcp.mono ?_
            rintro e w1 ⟨rfl, rfl⟩
            go_wp2_with fail
            go_ret2
            exact ⟨ret_se hN.out.1.symm hN.out.2.symm, hbr⟩
        · have hN := Lib.hid (un_none (un_bad hlt hp h37 HP.out))
          go_wp2_with fail
          refine (cplain_any s[k] wr).mono ?_
          rintro e w1 ⟨rfl, rfl⟩
          rw [hp]
          clear hp
          go_wp2_with fail
          go_ret2
          exact ⟨ret_se hN.out.1.symm hN.out.2.symm, hbr⟩
    · have hS := Lib.hid (un_some (un_end hlt HP.out))
      go_wp2_with fail
      refine (bldString_any _ _ pre _ hB hbr.size).mono ?_
      rintro e w1 ⟨rfl, hb1⟩
      go_wp2_with fail
      go_ret2
      exact ⟨ret_se hS.out.1.symm hS.out.2.symm, hbr.trans hb1⟩
end Go.Proofs.YthdpkfddmkijlaaGreatDoor

/- identityref02.Base64 computes b64S. -/
namespace Go.Proofs.YthdpkfddmkijlaaGreatDoor
open Go.RowKit

theorem byteCells_at (l : List UInt8) (j : Nat) (h : j < l.length) : (Lib.byteCells l)[j]? = some (Value.int .u8 (l[j].toNat : Int)) := by
  simp [Lib.byteCells, h]
/-- string(b), b a row of bytes of the call's own. -/
theorem conv_own {w : World} {base n : Nat} {v : Value} {l : List UInt8} (h : w.ownsRow base 5 1 v n (Lib.byteCells l)) :
    (convert 81 9 v).run Tryz.prog w = .ok (.string ⟨l.toArray⟩) w := by
  have hl : l.length = n := by have := h.1; simpa [Lib.byteCells_length] using this
  subst hl
  rcases h.2 with ⟨rfl, h0⟩ | ⟨g, cap, cur, rfl, hg, hh, rest⟩
  · have : l = [] := List.eq_nil_of_length_eq_zero h0
    subst this
    exact Lib.run_convert_nil_bytes w 81 9 5 0 Tryz.underlying81 Tryz.underlying5 Tryz.underlying9
  · refine run_convert_bytes_back w 81 9 5 ⟨g, 0, none⟩ cap l Tryz.underlying81 Tryz.underlying5 Tryz.underlying9 (fun j hj => ?_)
    exact h.cells (g := g) rfl j _ (byteCells_at l j hj)
theorem byteCells_app (l m : List UInt8) : Lib.byteCells l ++ Lib.byteCells m = Lib.byteCells (l ++ m) := by simp [Lib.byteCells]
/-- A letter more. -/
theorem own_snoc {w : World} {base n : Nat} {v : Value} {l : List UInt8} {c : UInt8} (h : w.ownsRow base 5 1 v n (Lib.byteCells l ++ [Value.int .u8 (c.toNat : Int)])) :
    w.ownsRow base 5 1 v n (Lib.byteCells (l ++ [c])) := by
  rw [← byteCells_app]; exact h
theorem tab_lit (d : Nat) (h : d < 64) : (⟨#[65, 66, 67, 68, 69, 70, 71, 72, 73, 74, 75, 76, 77, 78, 79, 80, 81, 82, 83, 84, 85, 86, 87, 88, 89, 90, 97, 98, 99, 100, 101, 102, 103, 104, 105, 106, 107, 108, 109, 110, 111, 112, 113, 114, 115, 116, 117, 118, 119, 120, 121, 122, 48, 49, 50, 51, 52, 53, 54, 55, 56, 57, 45, 95]⟩ : ByteArray)[d]'h = b64Dig d := b64Tab_el d h h
theorem r_three {s : ByteArray} {k a b c d0 d1 d2 d3 : Nat} {pre L : List UInt8} (hk : k + 2 < s.size) (ha : s[k].toNat = a) (hb : s[k + 1].toNat = b) (hc : s[k + 2].toNat = c) (h0 : a / 4 = d0) (h1 : a % 4 * 16 + b / 16 = d1) (h2 : b % 16 * 4 + c / 64 = d2) (h3 : c % 64 = d3) (HP : pre ++ b64E (s.data.toList.drop k) 0 0 = L) :
    (pre ++ [b64Dig d0] ++ [b64Dig d1] ++ [b64Dig d2] ++ [b64Dig d3]) ++ b64E (s.data.toList.drop (k + 3)) 0 0 = L := by
  rw [drop_cons s k (by omega), b64E, drop_cons s (k + 1) (by omega), b64E, drop_cons s (k + 2) hk, b64E, ha, hb, hc, h0, h1, h2, h3] at HP
  · rw [← HP]; simp
  all_goals omega
theorem r_two {s : ByteArray} {k a b d0 d1 d2 : Nat} {pre L : List UInt8} (hk : k + 2 = s.size) (ha : (s[k]'(by omega)).toNat = a) (hb : (s[k + 1]'(by omega)).toNat = b) (h0 : a / 4 = d0) (h1 : a % 4 * 16 + b / 16 = d1) (h2 : b % 16 * 4 = d2) (HP : pre ++ b64E (s.data.toList.drop k) 0 0 = L) :
    (pre ++ [b64Dig d0] ++ [b64Dig d1] ++ [b64Dig d2]) ++ b64E (s.data.toList.drop (k + 3)) 0 0 = L := by
  rw [drop_cons s k (by omega), b64E, drop_cons s (k + 1) (by omega), b64E, List.drop_of_length_le (i := k + 1 + 1) (by simp; have : s.size = s.data.size := rfl; omega), b64E, ha, hb, h0, h1, h2] at HP
  · rw [← HP, List.drop_of_length_le (by simp; have : s.size = s.data.size := rfl; omega), b64E]; simp
  all_goals omega
theorem r_one {s : ByteArray} {k a d0 d1 : Nat} {pre L : List UInt8} (hk : k + 1 = s.size) (ha : (s[k]'(by omega)).toNat = a) (h0 : a / 4 = d0) (h1 : a % 4 * 16 = d1) (HP : pre ++ b64E (s.data.toList.drop k) 0 0 = L) :
    (pre ++ [b64Dig d0] ++ [b64Dig d1]) ++ b64E (s.data.toList.drop (k + 3)) 0 0 = L := by
  rw [drop_cons s k (by omega), b64E, List.drop_of_length_le (i := k + 1) (by simp; have : s.size = s.data.size := rfl; omega), b64E, ha, h0, h1] at HP
  rw [← HP, List.drop_of_length_le (by simp; have : s.size = s.data.size := rfl; omega), b64E]; simp

end Go.Proofs.YthdpkfddmkijlaaGreatDoor

/- identityref02.Escape and .Unescape compute escS, unescS. -/
namespace Go.Proofs.YthdpkfddmkijlaaGreatDoor
open Go.RowKit

theorem plainB_mk {c : UInt8} {b : Bool} (h : b = true ↔ (33 ≤ c.toNat ∧ c.toNat ≤ 126 ∧ c.toNat ≠ 37 ∧ c.toNat ≠ 124 ∧ c.toNat ≠ 44 ∧ c.toNat ≠ 61 ∧ c.toNat ≠ 59 ∧ c.toNat ≠ 34)) : b = plainB c := by
  rw [Bool.eq_iff_iff, h, plainB, decide_eq_true_iff]
set_option maxHeartbeats 2000000 in
theorem rplainB_any (c : UInt8) (w : World) :
    Calls Tryz.prog 103 #[.int .u8 (c.toNat : Int)] w fun e w' => e = .returned (.bool (plainB c)) ∧ w = w' := by
  have hcs : c.toNat = 37 ∨ c.toNat = 124 ∨ c.toNat = 44 ∨ c.toNat = 61 ∨ c.toNat = 59 ∨ c.toNat = 34 ∨ c.toNat < 33 ∨ c.toNat = 33 ∨ (34 < c.toNat ∧ c.toNat < 37) ∨ (37 < c.toNat ∧ c.toNat < 44) ∨ (44 < c.toNat ∧ c.toNat < 59) ∨ c.toNat = 60 ∨ (61 < c.toNat ∧ c.toNat < 124) ∨ c.toNat = 125 ∨ c.toNat = 126 ∨ 126 < c.toNat := by omega
  go_enter Tryz.func103, Tryz.ntmps103
  generalize hn : c.toNat = n at *
  have HN := Lib.hid hn
  clear hn
  rcases hcs with rfl | rfl | rfl | rfl | rfl | rfl | h | rfl | ⟨h1, h2⟩ | ⟨h1, h2⟩ | ⟨h1, h2⟩ | rfl | ⟨h1, h2⟩ | rfl | rfl | h
  all_goals
    go_wp2
    go_ret
    exact ⟨ret_bool (plainB_mk (by rw [HN.out]; simp; try omega)), rfl⟩

theorem hexTab_lt (k : Nat) (h : k < 16) (h' : k < hexTab.size) (c : UInt8) : hexTab[k] = c ↔ hexV c = some k := by
  rw [hexTab_el k h h']
  constructor
  · rintro rfl; exact hexV_dig k h
  · intro e; exact (hexU_val e).1
def digZ (c : UInt8) : Int := match hexV c with | none => -1 | some v => (v : Int)
theorem digZ_some {c : UInt8} {v : Nat} (h : hexV c = some v) : digZ c = (v : Int) := by simp [digZ, h]
theorem digZ_none {c : UInt8} (h : hexV c = none) : digZ c = -1 := by simp [digZ, h]
theorem dig_end {c : UInt8} (h : ∀ j, j < 16 → hexV c ≠ some j) : hexV c = none := by
  cases hv : hexV c with
  | none => rfl
  | some v => exact absurd hv (h v (hexV_lt hv))
set_option maxHeartbeats 1000000 in
theorem digit_any (c : UInt8) (w : World) :
    Calls Tryz.prog 109 #[.int .u8 (c.toNat : Int)] w fun e w' => e = .returned (.int .i64 (digZ c)) ∧ w = w' := by
  go_enter Tryz.func109, Tryz.ntmps109
  go_wp2_with fail
  go_loop [3] (fun i => ∃ k : Nat, k ≤ 16 ∧ i = .int .i64 k ∧ Hid (∀ j, j < k → hexV c ≠ some j)) (fun i => 16 - (intOf i).toNat)
  case atStart => exact ⟨0, Nat.zero_le _, rfl, Lib.hid (fun j h => by omega)⟩
  case round =>
    obtain ⟨k, hk, rfl, HA⟩ := hrel
    by_cases hlt : k < 16
    · have eA := hex_lit k hlt
      by_cases he : hexV c = some k
      · have HV := Lib.hid (digZ_some he)
        have hx : (hexU k) = c := (hexU_val he).1
        clear he
        go_wp2_with fail
        go_ret
        exact ⟨ret_int HV.out.symm, rfl⟩
      · have hx : ((((hexU k).toNat : Int) == (c.toNat : Int))) = false := by
          rw [beq_eq_false_iff_ne]
          intro e
          have : hexU k = c := UInt8.toNat_inj.1 (by omega)
          exact he (this ▸ hexV_dig k hlt)
        have HE := Lib.hid he
        clear he
        go_wp2_with fail
        go_round
        case rel => exact ⟨k + 1, by omega, by go_num, Lib.hid (fun j hj => by rcases Nat.lt_succ_iff_lt_or_eq.1 hj with h | rfl; exact HA.out j h; exact HE.out)⟩
        case measure => simp [intOf]; omega
    · have hV := Lib.hid (digZ_none (dig_end (fun j hj => HA.out j (by omega))))
      go_wp2_with fail
      go_ret
      exact ⟨ret_int hV.out.symm, rfl⟩

theorem cell_three_new (w : World) (x y z : Value) (t : TypeId) : ∀ j u, [x, y, z][j]? = some u → (w.alloc (.cells #[x, y, z] t)).cell? ((⟨w.heap.size, 0, none⟩ : Addr).add j) = some u := by
  intro j u hj
  match j, hj with
  | 0, hj => simp at hj; subst hj; simp [Addr.add]
  | 1, hj => simp at hj; subst hj; simp [Addr.add]
  | 2, hj => simp at hj; subst hj; simp [Addr.add]
theorem own_three {w : World} {base n : Nat} {v : Value} {l : List UInt8} {a b c : UInt8} (h : w.ownsRow base 5 1 v n (Lib.byteCells l ++ [Value.int .u8 (a.toNat : Int), Value.int .u8 (b.toNat : Int), Value.int .u8 (c.toNat : Int)])) :
    w.ownsRow base 5 1 v n (Lib.byteCells (l ++ [a] ++ [b] ++ [c])) := by
  have e : Lib.byteCells l ++ [Value.int .u8 (a.toNat : Int), Value.int .u8 (b.toNat : Int), Value.int .u8 (c.toNat : Int)] = Lib.byteCells (l ++ [a] ++ [b] ++ [c]) := by simp [Lib.byteCells]
  rw [← e]; exact h

set_option maxHeartbeats 2000000 in
set_option maxRecDepth 100000 in
theorem resc_any (s : ByteArray) (w : World) (hs : s.size ≤ 1000000000) :
    Calls Tryz.prog 81 #[.string s] w fun e w' => e = .returned (.string (escS s)) ∧ Below w.heap.size w w' := by
  obtain ⟨i0, hi, hz0, hz1, hz2⟩ := info_parts info_byte
  go_enter Tryz.func81, Tryz.ntmps81
  go_wp2_with fail
  go_loopw [3, 4] (fun v i wr => ∃ (k : Nat) (pre : List UInt8), k ≤ s.size ∧ i = .int .i64 k ∧ wr.ownsRow w.heap.size 5 1 v pre.length (Lib.byteCells pre) ∧ Hid (pre ++ escL (s.data.toList.drop k) = escL s.data.toList) ∧ pre.length ≤ 3 * k ∧ Below w.heap.size w wr) (fun _ i _ => s.size - (intOf i).toNat)
  case atStart => exact ⟨0, [], Nat.zero_le _, rfl, World.ownsRow_nil _ _ _ _, Lib.hid rfl, Nat.zero_le _, Below.refl _ _⟩
  case round =>
    obtain ⟨k, pre, hk, rfl, hown, HP, hpl, hbr⟩ := hrel
    by_cases hlt : k < s.size
    · cases hp : plainB s[k] with
      | true =>
        have HQ := Lib.hid hp
        go_wp2_with fail
        refine (rplainB_any s[k] wr).mono ?_
        rintro e w1 ⟨rfl, rfl⟩
        rw [hp]
        clear hp
        go_wp2_with (at_builtin; refine wpList_append_own _ rfl _ _ 81 rfl w.heap.size 5 i0 (.int .u8 0) 1 1 Tryz.underlying81 hi hz0 hz1 hz2 rfl (by decide) _ _ _ rfl (hown.alloc _) ⟨wr.heap.size, 0, none⟩ 1 1 [.int .u8 (s[k].toNat : Int)] rfl rfl (cell_one_new _ _ _) (by intro u hu; simp at hu; subst hu; rfl) (by unfold maxLen; simp; omega) (by simp; omega) (by have := hbr.size; simp; omega) ?_; intro v0 w0 ho0 hg0 _)
        have hb0 : Below w.heap.size w w0 := (hbr.alloc (hbr.size) _).grown hg0 (by have := hbr.size; simp; omega) (fun q hq => (hown.lt q hq).1)
        have hw0 := own_snoc ho0
        clear ho0 hg0
        go_wp2_with fail
        go_roundw
        case rel => exact ⟨k + 1, pre ++ [s[k]], by omega, by go_num, by simpa using hw0, Lib.hid (esc_step1 hlt HQ.out HP.out), by simp; omega, hb0⟩
        case measure => simp [intOf]; omega
      | false =>
        have HQ := Lib.hid hp
        obtain ⟨c, hc⟩ : ∃ c, s[k].toNat = c := ⟨_, rfl⟩
        have HC := Lib.hid hc
        have hcl : c < 256 := hc ▸ s[k].toNat_lt
        have hcp := rplainB_any s[k] wr
        rw [hc, hp] at hcp
        clear hp
        obtain ⟨a, HA⟩ : ∃ a, Hid (c / 16 = a) := ⟨_, Lib.hid rfl⟩
        have hal : a < 16 := by have := HA.out; omega
        have ea : (c : Int).tdiv 16 = (a : Int) := by have := HA.out; rw [Int.tdiv_eq_ediv_of_nonneg (by omega)]; omega
        obtain ⟨b, HB⟩ : ∃ b, Hid (c % 16 = b) := ⟨_, Lib.hid rfl⟩
        have hbl : b < 16 := by have := HB.out; omega
        have eb : (c : Int).tmod 16 = (b : Int) := by have := HB.out; rw [Int.tmod_eq_emod_of_nonneg (by omega)]; omega
        have wa : IntKind.u8.wrap (a : Int) = (a : Int) := by rw [IntKind.wrap_u8]; omega
        have wb : IntKind.u8.wrap (b : Int) = (b : Int) := by rw [IntKind.wrap_u8]; omega
        have eA := hex_lit a hal
        have eB := hex_lit b hbl
        have hi1 : (0 : Int) ≤ (k : Int) := by omega
        have hi2 : (k : Int) < (s.size : Int) := by omega
        have ha1 : (0 : Int) ≤ (a : Int) := by omega
        have ha2 : (a : Int) < 16 := by omega
        have hb1 : (0 : Int) ≤ (b : Int) := by omega
        have hb2 : (b : Int) < 16 := by omega
        go_wp2_with fail
        refine hcp.mono ?_
        rintro e w1 ⟨rfl, rfl⟩
        go_wp2_with fail
        have hown0 := hown.drew
        have hbr' := hbr.drew
        clear hcp
        go_region_law (refine step_append_lies _ (by rfl) _ _ _ (by rfl) w.heap.size 5 i0 _ 1 1 Tryz.underlying81 hi hz0 hz1 hz2 rfl (by omega) _ pre.length (Lib.byteCells pre) (by rfl) (hown0.alloc _) ⟨wr.heap.size, 0, none⟩ 3 3 [.int .u8 37, .int .u8 ((hexU a).toNat : Int), .int .u8 ((hexU b).toNat : Int)] (by rfl) (by rfl) ?_ ?_ (by omega) (by unfold maxLen; omega) (by omega) ?_ (wr.heap.size + 1) ?_ ?_; exact cell_three_new _ _ _ _ _; (intro u hu; simp at hu; rcases hu with rfl | rfl | rfl <;> rfl); (have := hbr.size; simp; omega); (simp); (intro gg cap w0 ho0 hg0 hat hlt3))
        all_goals
          have hb0 : Below w.heap.size w w0 := (hbr'.alloc (hbr'.size) _).grown hg0 (by have : w.heap.size ≤ wr.heap.size := hbr.size; simp; omega) (fun q hq => (hown0.lt q hq).1)
          have hw0 := own_three (a := 37) ho0
          clear ho0 hg0
          go_wp2_with fail
          have hP := esc_step3 hlt HQ.out HC.out HA.out HB.out HP.out
          go_roundw
          case rel => exact ⟨k + 1, _, by omega, by go_num, by simpa using hw0, Lib.hid hP, by simp; omega, hb0⟩
          case measure => simp [intOf]; omega
    · have HE := Lib.hid (esc_end hlt HP.out)
      have hcv := conv_own hown
      go_wp2_with fail
      go_ret
      exact ⟨ret_str HE.out, hbr⟩
end Go.Proofs.YthdpkfddmkijlaaGreatDoor

/- identityref02.Unescape computes unescS, unescE. -/
namespace Go.Proofs.YthdpkfddmkijlaaGreatDoor
open Go.RowKit

theorem raw_plain {s : ByteArray} {k : Nat} {pre : List UInt8} {L : Option (List UInt8)} (hk : k < s.size) (hp : s[k].toNat ≠ 37) (HP : (rawE (s.data.toList.drop k) 0).map (pre ++ ·) = L) :
    (rawE (s.data.toList.drop (k + 1)) 0).map ((pre ++ [s[k]]) ++ ·) = L := by
  rw [drop_cons s k hk, rawE, if_neg (by intro e; rw [e] at hp; exact hp rfl), r64_snoc] at HP
  exact HP
theorem raw_short {s : ByteArray} {k : Nat} {pre : List UInt8} {L : Option (List UInt8)} (hk : k < s.size) (h37 : s[k].toNat = 37) (hs : ¬ k + 2 < s.size) (HP : (rawE (s.data.toList.drop k) 0).map (pre ++ ·) = L) : L = none := by
  rw [drop_cons s k hk, u37 h37, rawE, if_pos rfl] at HP
  rw [← HP]
  by_cases h1 : k + 1 < s.size
  · rw [drop_cons s (k + 1) h1, rawE, List.drop_of_length_le (by simp; have : s.size = s.data.size := rfl; omega)]
    cases hexV s[k + 1] <;> rfl
  · rw [List.drop_of_length_le (by simp; have : s.size = s.data.size := rfl; omega)]; rfl
theorem raw_hex {s : ByteArray} {k : Nat} {pre : List UInt8} {L : Option (List UInt8)} (hs : k + 2 < s.size) (h37 : s[k].toNat = 37) (HP : (rawE (s.data.toList.drop k) 0).map (pre ++ ·) = L) :
    (((hexV s[k + 1]).bind fun a => (hexV s[k + 2]).bind fun b => (rawE (s.data.toList.drop (k + 3)) 0).map (UInt8.ofNat (a * 16 + b) :: ·)).map (pre ++ ·)) = L := by
  rw [drop_cons s k (by omega), u37 h37, rawE, if_pos rfl, drop_cons s (k + 1) (by omega), rawE, drop_cons s (k + 2) hs] at HP
  rw [← HP]
  cases hexV s[k + 1] with
  | none => rfl
  | some a => rw [Option.bind_some, Option.bind_some, rawE]
theorem raw_none {s : ByteArray} (h : rawE s.data.toList 0 = none) : unescS s = ⟨#[]⟩ ∧ unescE s = 4 := un_none (by rw [raw_same, h]; rfl)
theorem raw_end {s : ByteArray} {k : Nat} {pre : List UInt8} (hk : ¬ k < s.size) (HP : (rawE (s.data.toList.drop k) 0).map (pre ++ ·) = rawE s.data.toList 0) :
    unescO s = if escL pre = s.data.toList then some ⟨pre.toArray⟩ else none := by
  rw [List.drop_of_length_le (by simp; have : s.size = s.data.size := rfl; omega), rawE] at HP
  rw [unescO, raw_same, ← HP]
  by_cases h : escL pre = s.data.toList <;> simp [h]
theorem un_noneO {s : ByteArray} (h : unescO s = none) : unescS s = ⟨#[]⟩ ∧ unescE s = 4 := by
  simp [unescS, unescE, h]; rfl
theorem digit_at (c : UInt8) (v : Nat) (w : World) (h : hexV c = some v) :
    Calls Tryz.prog 109 #[.int .u8 (c.toNat : Int)] w fun e w' => e = .returned (.int .i64 (v : Int)) ∧ w = w' := by
  have := digit_any c w; rw [digZ_some h] at this; exact this
theorem digit_none (c : UInt8) (w : World) (h : hexV c = none) :
    Calls Tryz.prog 109 #[.int .u8 (c.toNat : Int)] w fun e w' => e = .returned (.int .i64 (-1)) ∧ w = w' := by
  have := digit_any c w; rw [digZ_none h] at this; exact this

set_option maxHeartbeats 4000000 in
set_option maxRecDepth 100000 in
theorem runesc_any (s : ByteArray) (w : World) (hs : s.size ≤ 1000000000) :
    Calls Tryz.prog 88 #[.string s] w fun e w' => e = .returned (.tuple #[.string (unescS s), .int .i64 (unescE s)]) ∧ Below w.heap.size w w' := by
  obtain ⟨i0, hi, hz0, hz1, hz2⟩ := info_parts info_byte
  go_enter Tryz.func88, Tryz.ntmps88
  go_wp2_with fail
  go_loopw [4, 5] (fun v i wr => ∃ (k : Nat) (pre : List UInt8), k ≤ s.size ∧ i = .int .i64 k ∧ wr.ownsRow w.heap.size 5 1 v pre.length (Lib.byteCells pre) ∧ Hid ((rawE (s.data.toList.drop k) 0).map (pre ++ ·) = rawE s.data.toList 0) ∧ pre.length ≤ k ∧ Below w.heap.size w wr) (fun _ i _ => s.size - (intOf i).toNat)
  case atStart => exact ⟨0, [], Nat.zero_le _, rfl, World.ownsRow_nil _ _ _ _, Lib.hid (by simp), Nat.zero_le _, Below.refl _ _⟩
  case round =>
    obtain ⟨k, pre, hk, rfl, hown, HP, hpl, hbr⟩ := hrel
    by_cases hlt : k < s.size
    · by_cases h37 : s[k].toNat = 37
      · have H37 := Lib.hid h37
        have hb37 : ((37 : Int) != 37) = false := rfl
        by_cases h2 : k + 2 < s.size
        · have HX := raw_hex h2 H37.out HP.out
          have hw1 : IntKind.i64.wrap ((k : Int) + 1) = (k : Int) + 1 := IntWalk.i64_in _ (by omega)
          have hw2 : IntKind.i64.wrap ((k : Int) + 2) = (k : Int) + 2 := IntWalk.i64_in _ (by omega)
          have hb1a : (0 : Int) ≤ (k : Int) + 1 := by omega
          have hb1b : (k : Int) + 1 < (s.size : Int) := by omega
          have hb2a : (0 : Int) ≤ (k : Int) + 2 := by omega
          have hb2b : (k : Int) + 2 < (s.size : Int) := by omega
          obtain ⟨c1, hc1⟩ : ∃ c1, s[k + 1] = c1 := ⟨_, rfl⟩
          obtain ⟨c2, hc2⟩ : ∃ c2, s[k + 2] = c2 := ⟨_, rfl⟩
          rw [hc1, hc2] at HX
          cases h1 : hexV c1 with
          | none =>
            rw [h1, Option.bind_none, Option.map_none] at HX
            have hN := Lib.hid (raw_none HX.symm)
            have H1 := Lib.hid h1
            clear h1 HX
            go_wp2_with fail
            refine (digit_none _ _ H1.out).mono ?_
            rintro e w1 ⟨rfl, rfl⟩
            go_wp2_with fail
            go_ret2
            exact ⟨ret_se hN.out.1.symm hN.out.2.symm, hbr⟩
          | some a =>
            rw [h1, Option.bind_some] at HX
            have H1 := Lib.hid h1
            have hal := hexV_lt h1
            clear h1
            cases hv2 : hexV c2 with
            | none =>
              rw [hv2, Option.bind_none, Option.map_none] at HX
              have hN := Lib.hid (raw_none HX.symm)
              have H2 := Lib.hid hv2
              clear hv2 HX
              go_wp2_with fail
              refine (digit_at _ _ _ H1.out).mono ?_
              rintro e w1 ⟨rfl, rfl⟩
              go_wp2_with fail
              refine (digit_none _ _ H2.out).mono ?_
              rintro e w1 ⟨rfl, rfl⟩
              go_wp2_with fail
              go_ret2
              exact ⟨ret_se hN.out.1.symm hN.out.2.symm, hbr⟩
            | some b =>
              rw [hv2, Option.bind_some, r64_snoc] at HX
              have H2 := Lib.hid hv2
              have hbl := hexV_lt hv2
              clear hv2
              obtain ⟨x, HXx⟩ : ∃ x, Hid (16 * a = x) := ⟨_, Lib.hid rfl⟩
              have e1 : IntKind.i64.wrap (16 * (a : Int)) = (x : Int) := by rw [IntWalk.i64_in _ (by omega)]; have := HXx.out; omega
              obtain ⟨z, HZ⟩ : ∃ z, Hid (x + b = z) := ⟨_, Lib.hid rfl⟩
              have e2 : IntKind.i64.wrap ((x : Int) + (b : Int)) = (z : Int) := by rw [IntWalk.i64_in _ (by have := HXx.out; omega)]; have := HZ.out; omega
              obtain ⟨q, HQq⟩ : ∃ q, Hid (UInt8.ofNat (a * 16 + b) = q) := ⟨_, Lib.hid rfl⟩
              have eb : IntKind.u8.wrap (z : Int) = (q.toNat : Int) := by rw [wrap_u8, ← HQq.out, ← HZ.out, ← HXx.out, Nat.mul_comm]
              rw [HQq.out] at HX
              have HP1 := Lib.hid HX
              clear HX
              have hn2 : ((k : Int) + 2).toNat = k + 2 := by omega
              have hi1 : (0 : Int) ≤ (k : Int) := by omega
              have hi2 : (k : Int) < (s.size : Int) := by omega
              go_wp2_with fail
              refine (digit_at _ _ _ H1.out).mono ?_
              rintro e w1 ⟨rfl, rfl⟩
              go_wp2_with fail
              refine (digit_at _ _ _ H2.out).mono ?_
              rintro e w1 ⟨rfl, rfl⟩
              go_wp2_with fail
              have hbr' := hbr.drew
              go_region_held3 (fun _ => True) (trivial) (first
                | (go_at_call_of 109 c1; refine (digit_at c1 a _ H1.out).mono ?_; rintro e w2 ⟨rfl, rfl⟩)
                | (go_at_call_of 109 c2; refine (digit_at c2 b _ H2.out).mono ?_; rintro e w2 ⟨rfl, rfl⟩)
                | (refine step_append_lies _ (by rfl) _ _ _ (by rfl) w.heap.size 5 i0 _ 1 1 Tryz.underlying81 hi hz0 hz1 hz2 rfl (by omega) _ pre.length (Lib.byteCells pre) (by rfl) ?_ ⟨wr.heap.size, 0, none⟩ 1 1 [.int .u8 (q.toNat : Int)] (by rfl) (by rfl) ?_ ?_ (by omega) (by unfold maxLen; omega) (by omega) ?_ (wr.heap.size + 1) ?_ ?_; exact (hown.alloc _).drew; exact cell_one_new _ _ _; (intro u hu; simp at hu; subst hu; rfl); (have := hbr.size; simp; omega); (simp); (intro gg cap w0 ho0 hg0 hat hlt3)))
              all_goals
                have hb0 : Below w.heap.size w w0 := (hbr'.alloc (hbr'.size) _).grown hg0 (by have : w.heap.size ≤ wr.heap.size := hbr.size; simp; omega) (fun q hq => (hown.lt q hq).1)
                have hw0 := own_snoc ho0
                clear ho0 hg0
                go_wp2_with fail
                go_roundw
                case rel => exact ⟨k + 3, pre ++ [q], by omega, by go_num, by simpa using hw0, HP1, by simp; omega, hb0⟩
                case measure => simp [intOf]; omega
        · have hN := Lib.hid (raw_none (raw_short hlt H37.out h2 HP.out))
          go_wp2_with fail
          go_ret2
          exact ⟨ret_se hN.out.1.symm hN.out.2.symm, hbr⟩
      · have hb37 : ((s[k].toNat : Int) != 37) = true := by rw [bne_iff_ne]; omega
        have H37 := Lib.hid h37
        clear h37
        go_wp2_with (at_builtin; refine wpList_append_own _ rfl _ _ 81 rfl w.heap.size 5 i0 (.int .u8 0) 1 1 Tryz.underlying81 hi hz0 hz1 hz2 rfl (by decide) _ _ _ rfl (hown.alloc _) ⟨wr.heap.size, 0, none⟩ 1 1 [.int .u8 (s[k].toNat : Int)] rfl rfl (cell_one_new _ _ _) (by intro u hu; simp at hu; subst hu; rfl) (by unfold maxLen; simp; omega) (by simp; omega) (by have := hbr.size; simp; omega) ?_; intro v0 w0 ho0 hg0 _)
        have hb0 : Below w.heap.size w w0 := (hbr.alloc (hbr.size) _).grown hg0 (by have := hbr.size; simp; omega) (fun q hq => (hown.lt q hq).1)
        have hw0 := own_snoc ho0
        clear ho0 hg0
        go_wp2_with fail
        go_roundw
        case rel => exact ⟨k + 1, pre ++ [s[k]], by omega, by go_num, by simpa using hw0, Lib.hid (raw_plain hlt H37.out HP.out), by simp; omega, hb0⟩
        case measure => simp [intOf]; omega
    · have hE := Lib.hid (raw_end hlt HP.out)
      have hcv := conv_own hown
      have hsz : (⟨pre.toArray⟩ : ByteArray).size ≤ 1000000000 := by show pre.toArray.size ≤ _; simp; omega
      have HSZ := Lib.hid hsz
      clear hsz
      by_cases he : escL pre = s.data.toList
      · have hG := Lib.hid (un_some (hE.out.trans (if_pos he)))
        have hq : (escS ⟨pre.toArray⟩) = s := by
          apply ByteArray.ext
          simp [escS, he]
        have hr := resc_any ⟨pre.toArray⟩ wr HSZ.out
        rw [hq] at hr
        have hss : (s.toList == s.toList) = true := by simp
        clear he hq
        go_wp2_with fail
        refine hr.mono ?_
        rintro e w1 ⟨rfl, hb1⟩
        have hcv1 := conv_own (own_below hown hb1)
        go_wp2_with fail
        go_ret2
        exact ⟨ret_se hG.out.1.symm hG.out.2.symm, hbr.trans (hb1.mono hbr.size)⟩
      · have hG := Lib.hid (un_noneO (hE.out.trans (if_neg he)))
        have hne : escS ⟨pre.toArray⟩ ≠ s := by
          intro e
          apply he
          rw [← e]; simp [escS]
        have hr := resc_any ⟨pre.toArray⟩ wr HSZ.out
        generalize escS ⟨pre.toArray⟩ = q at hr hne
        have hss := str_ne hne
        clear he hne
        go_wp2_with fail
        refine hr.mono ?_
        rintro e w1 ⟨rfl, hb1⟩
        go_wp2_with fail
        go_ret2
        exact ⟨ret_se hG.out.1.symm hG.out.2.symm, hbr.trans (hb1.mono hbr.size)⟩
end Go.Proofs.YthdpkfddmkijlaaGreatDoor

/- identityref02.Cut. -/
namespace Go.Proofs.YthdpkfddmkijlaaGreatDoor
open Go.RowKit

set_option maxHeartbeats 2000000 in
set_option maxRecDepth 100000 in
theorem rcut_any (s : ByteArray) (c : UInt8) (w : World) (hs : s.size ≤ 1000000000) :
    Calls Tryz.prog 87 #[.string s, .int .u8 (c.toNat : Int)] w fun e w' => RetStrs w.heap.size w' e (cutsS s c) ∧ Below w.heap.size w w' := by
  obtain ⟨i0, hi, hz0, hz1, hz2⟩ := info_parts Tryz.info_s
  go_enter Tryz.func87, Tryz.ntmps87
  go_wp2_with fail
  go_loopw [5, 6, 7] (fun v fr i wr => ∃ (k f : Nat) (P : List ByteArray), k ≤ s.size ∧ f ≤ k ∧ i = .int .i64 k ∧ fr = .int .i64 f ∧ wr.ownsRow w.heap.size 9 1 v P.length (strVs P) ∧ Hid (P ++ cutsL c (s.data.toList.drop f) = cutsS s c) ∧ Hid (c ∉ (s.data.toList.take k).drop f) ∧ P.length ≤ k ∧ Below w.heap.size w wr) (fun _ _ i _ => s.size - (intOf i).toNat)
  case atStart => exact ⟨0, 0, [], Nat.zero_le _, Nat.zero_le _, rfl, rfl, World.ownsRow_nil _ _ _ _, Lib.hid rfl, Lib.hid (by simp), Nat.zero_le _, Below.refl _ _⟩
  case round =>
    obtain ⟨k, f, P, hk, hf, rfl, rfl, hown, HP, HN, hpl, hbr⟩ := hrel
    by_cases hlt : k < s.size
    · by_cases hc : s[k] = c
      · have HC := Lib.hid hc
        have hceq : ((s[k].toNat : Int) == (c.toNat : Int)) = true := by rw [hc]; simp
        clear hc
        go_wp2_with (at_builtin; refine wpList_append_own _ rfl _ _ 33 rfl w.heap.size 9 i0 (.string ByteArray.empty) 1 16 Tryz.underlying33 hi hz0 hz1 hz2 rfl (by decide) _ _ _ rfl (hown.alloc _) ⟨wr.heap.size, 0, none⟩ 1 1 [strV (s.extract f k)] rfl rfl (cell_one_new _ _ _) (by intro u hu; simp at hu; subst hu; rfl) (by unfold maxLen; omega) (by omega) (by have := hbr.size; simp; omega) ?_; intro v' w1 hown1 hg1 _)
        have hb1 : Below w.heap.size w w1 := (hbr.alloc (hbr.size) _).grown hg1 (by have := hbr.size; simp; omega) (fun q hq => (hown.lt q hq).1)
        have HO : Hid (w1.ownsRow w.heap.size 9 1 v' (P ++ [s.extract f k]).length (strVs (P ++ [s.extract f k]))) := by
          show World.ownsRow _ _ _ _ _ _ _
          rw [← strVs_snoc, List.length_append]; exact hown1
        clear hown1 hg1
        go_wp2_with fail
        go_roundw
        case rel => exact ⟨k + 1, k + 1, P ++ [s.extract f k], by omega, by omega, by go_num, by go_num, HO.out, Lib.hid (cuts_step hf hlt HC.out HN.out HP.out), Lib.hid (by simp), by simp; omega, hb1⟩
        case measure => simp [intOf]; omega
      · have HC := Lib.hid hc
        have hcne : ((s[k].toNat : Int) == (c.toNat : Int)) = false := by
          rw [beq_eq_false_iff_ne]
          intro e
          exact hc (UInt8.toNat_inj.1 (by omega))
        clear hc
        go_wp2_with fail
        go_roundw
        case rel => exact ⟨k + 1, f, P, by omega, by omega, by go_num, rfl, hown, HP, Lib.hid (cuts_next hf hlt HC.out HN.out), by omega, hbr⟩
        case measure => simp [intOf]; omega
    · have HE := Lib.hid (cuts_end hlt HN.out HP.out)
      go_wp2_with (at_builtin; refine wpList_append_own _ rfl _ _ 33 rfl w.heap.size 9 i0 (.string ByteArray.empty) 1 16 Tryz.underlying33 hi hz0 hz1 hz2 rfl (by decide) _ _ _ rfl (hown.alloc _) ⟨wr.heap.size, 0, none⟩ 1 1 [strV (s.extract f s.size)] rfl rfl (cell_one_new _ _ _) (by intro u hu; simp at hu; subst hu; rfl) (by unfold maxLen; omega) (by omega) (by have := hbr.size; simp; omega) ?_; intro v' w1 hown1 hg1 _)
      have hb1 : Below w.heap.size w w1 := (hbr.alloc (hbr.size) _).grown hg1 (by have := hbr.size; simp; omega) (fun q hq => (hown.lt q hq).1)
      have HO : Hid (w1.ownsRow w.heap.size 9 1 v' (P ++ [s.extract f s.size]).length (strVs (P ++ [s.extract f s.size]))) := by
        show World.ownsRow _ _ _ _ _ _ _
        rw [← strVs_snoc, List.length_append]; exact hown1
      clear hown1 hg1
      go_wp2_with fail
      go_ret
      refine ⟨?_, hb1⟩
      have ho := HO.out
      rw [HE.out] at ho
      exact RetStrs.own ho rfl (strVs_at _)
end Go.Proofs.YthdpkfddmkijlaaGreatDoor

/- Plain: strings with a byte between them, one after the other. -/
namespace Go.Proofs.YthdpkfddmkijlaaGreatDoor
open Go.RowKit

theorem joinL_snoc (c : UInt8) : ∀ (ps : List (List UInt8)) (p : List UInt8), ps ≠ [] → joinL c (ps ++ [p]) = joinL c ps ++ c :: p
  | [], p, h => absurd rfl h
  | [q], p, _ => by simp [joinL]
  | q :: r :: ps, p, _ => by
    have ih := joinL_snoc c (r :: ps) p (by simp)
    rw [List.cons_append, joinL_cons c q _ (by simp), ih, joinL_cons c q (r :: ps) (by simp)]
    simp
theorem joinC_zero (c : UInt8) (l : List ByteArray) : joinC c (l.take 0) = ⟨#[]⟩ := by simp [joinC, joinL, bsOf]
theorem joinC_nil (c : UInt8) : joinC c [] = ⟨#[]⟩ := by simp [joinC, joinL, bsOf]
theorem joinC_one (c : UInt8) (s : ByteArray) : joinC c [s] = s := by simp [joinC, joinL, bsOf_list]
theorem take_one (l : List ByteArray) (h : 0 < l.length) : l.take 1 = [l[0]] := by
  cases l with
  | nil => simp at h
  | cons a l => simp
theorem joinC_snoc (c : UInt8) (l : List ByteArray) (k : Nat) (h0 : 0 < k) (h : k < l.length) : joinC c (l.take (k + 1)) = joinC c (l.take k) ++ ⟨#[c]⟩ ++ l[k] := by
  apply ByteArray.ext
  rw [List.take_succ_eq_append_getElem h, joinC, List.map_append, List.map_cons, List.map_nil, joinL_snoc _ _ _ (by intro e; have := congrArg List.length e; rw [List.length_map, List.length_take, List.length_nil] at this; omega)]
  simp [joinC, bsOf]
theorem joinC_size (c : UInt8) (l : List ByteArray) (M : Nat) (hz : ∀ s ∈ l, s.size ≤ M) : ∀ k, k ≤ l.length → (joinC c (l.take k)).size ≤ k * (M + 1) := by
  intro k
  induction k with
  | zero => intro _; rw [joinC_zero]; exact Nat.zero_le _
  | succ k ih =>
    intro hk
    have h1 := hz _ (List.getElem_mem (show k < l.length by omega))
    by_cases h0 : k = 0
    · subst h0
      rw [take_one l (by omega), joinC_one]; omega
    · rw [joinC_snoc c l k (by omega) (by omega)]
      have h2 := ih (by omega)
      have h3 : (⟨#[c]⟩ : ByteArray).size = 1 := rfl
      rw [ByteArray.size_append, ByteArray.size_append, h3, Nat.succ_mul]
      omega
theorem joinC_all (c : UInt8) (l : List ByteArray) (k : Nat) (h : ¬ k < l.length) : joinC c (l.take k) = joinC c l := by
  rw [List.take_of_length_le (by omega)]
end Go.Proofs.YthdpkfddmkijlaaGreatDoor

