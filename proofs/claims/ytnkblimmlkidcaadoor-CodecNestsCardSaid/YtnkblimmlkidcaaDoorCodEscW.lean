/- codec.Escape and codec.Unescape compute escS, unescS. -/
import Derived.Test.YtnkblimmlkidcaaDoorCodEsc
import Derived.Test.YtnkblimmlkidcaaDoorCodR64
import Derived.Deep.QuietTactic
import Derived.BigQuiet
import Derived.IntWalk
namespace Go.Proofs.YtnkblimmlkidcaaDoor
open Go.RowKit

def sepTab : ByteArray := ⟨#[37, 124, 44, 61, 59, 34]⟩
def hexTab : ByteArray := ⟨#[48, 49, 50, 51, 52, 53, 54, 55, 56, 57, 65, 66, 67, 68, 69, 70]⟩
/-- A separator. -/
def sepB (c : UInt8) : Bool := decide (c.toNat = 37 ∨ c.toNat = 124 ∨ c.toNat = 44 ∨ c.toNat = 61 ∨ c.toNat = 59 ∨ c.toNat = 34)
theorem plainB_eq (c : UInt8) : plainB c = (decide (33 ≤ c.toNat) && (decide (c.toNat ≤ 126) && !sepB c)) := by
  have : ∀ n : Fin 256, plainB (UInt8.ofNat n.1) = (decide (33 ≤ (UInt8.ofNat n.1).toNat) && (decide ((UInt8.ofNat n.1).toNat ≤ 126) && !sepB (UInt8.ofNat n.1))) := by decide +kernel
  have h := this ⟨c.toNat, c.toNat_lt⟩
  simpa using h
theorem sep_index (c : UInt8) : (sepB c = true → 0 ≤ Lib.indexByte sepTab.data.toList c) ∧ (sepB c = false → Lib.indexByte sepTab.data.toList c = -1) := by
  have : ∀ n : Fin 256, (sepB (UInt8.ofNat n.1) = true → 0 ≤ Lib.indexByte sepTab.data.toList (UInt8.ofNat n.1)) ∧ (sepB (UInt8.ofNat n.1) = false → Lib.indexByte sepTab.data.toList (UInt8.ofNat n.1) = -1) := by decide +kernel
  have h := this ⟨c.toNat, c.toNat_lt⟩
  simpa using h
theorem hex_index (c : UInt8) : Lib.indexByte hexTab.data.toList c = match hexV c with | none => -1 | some v => (v : Int) := by
  have : ∀ n : Fin 256, Lib.indexByte hexTab.data.toList (UInt8.ofNat n.1) = match hexV (UInt8.ofNat n.1) with | none => -1 | some d => (d : Int) := by decide +kernel
  have h := this ⟨c.toNat, c.toNat_lt⟩
  simpa using h
theorem hexTab_el (d : Nat) (h : d < 16) (h' : d < hexTab.size) : hexTab[d] = hexU d := by
  have : ∀ d : Fin 16, hexTab.data.toList[d.1]? = some (hexU d.1) := by decide +kernel
  have := this ⟨d, h⟩
  rw [List.getElem?_eq_getElem (by simpa using h')] at this
  exact Option.some.inj this
theorem hex_lit (d : Nat) (h : d < 16) : (⟨#[48, 49, 50, 51, 52, 53, 54, 55, 56, 57, 65, 66, 67, 68, 69, 70]⟩ : ByteArray)[d]'h = hexU d := hexTab_el d h h
theorem hexV_lt {c : UInt8} {v : Nat} (h : hexV c = some v) : v < 16 := (hexU_val h).2
theorem or_four (x c : Int) (h0 : 0 ≤ x) (hx : x < 1000000) (hc0 : 0 ≤ c) (hc : c < 16) : bits .or .i64 (x * 16) c = x * 16 + c :=
  bits_join .i64 62 (by decide) wraps_i64 4 (x * 16) c (by omega) (by omega) (by omega) (by omega) (by omega) (by omega)
/-- strings.IndexByte in the separators. -/
theorem index_sep (c : UInt8) (w : World) :
    Calls Tryd.prog 38 #[.string sepTab, .int .u8 (c.toNat : Int)] w fun e w' => e = .returned (.int .i64 (Lib.indexByte sepTab.data.toList c)) ∧ w = w' := by
  refine (Tryd.strings_IndexByte sepTab (c.toNat : Int) w).mono ?_
  rintro e w' ⟨rfl, rfl⟩
  exact ⟨ret_int (by simp), rfl⟩
theorem index_hex (c : UInt8) (w : World) :
    Calls Tryd.prog 38 #[.string hexTab, .int .u8 (c.toNat : Int)] w fun e w' => e = .returned (.int .i64 (match hexV c with | none => -1 | some v => (v : Int))) ∧ w = w' := by
  refine (Tryd.strings_IndexByte hexTab (c.toNat : Int) w).mono ?_
  rintro e w' ⟨rfl, rfl⟩
  refine ⟨ret_int ?_, rfl⟩
  rw [← hex_index]
  simp
theorem index_hexI (c : UInt8) (w : World) :
    Calls Tryd.prog 38 #[.string hexTab, .int .u8 (c.toNat : Int)] w fun e w' => e = .returned (.int .i64 (Lib.indexByte hexTab.data.toList c)) ∧ w = w' := by
  refine (Tryd.strings_IndexByte hexTab (c.toNat : Int) w).mono ?_
  rintro e w' ⟨rfl, rfl⟩
  exact ⟨ret_int (by simp), rfl⟩
theorem index_hex_at (c : UInt8) (z : Int) (w : World) (h : Lib.indexByte hexTab.data.toList c = z) :
    Calls Tryd.prog 38 #[.string hexTab, .int .u8 (c.toNat : Int)] w fun e w' => e = .returned (.int .i64 z) ∧ w = w' := by
  have := index_hexI c w; rw [h] at this; exact this
theorem index_hex_none (c : UInt8) (w : World) (h : hexV c = none) :
    Calls Tryd.prog 38 #[.string hexTab, .int .u8 (c.toNat : Int)] w fun e w' => e = .returned (.int .i64 (-1)) ∧ w = w' := by
  have := index_hex c w; rw [h] at this; exact this
theorem index_hex_some (c : UInt8) (v : Nat) (w : World) (h : hexV c = some v) :
    Calls Tryd.prog 38 #[.string hexTab, .int .u8 (c.toNat : Int)] w fun e w' => e = .returned (.int .i64 (v : Int)) ∧ w = w' := by
  have := index_hex c w; rw [h] at this; exact this

theorem plain_of {c : UInt8} {b : Bool} (h : b = (decide (33 ≤ c.toNat) && (decide (c.toNat ≤ 126) && !sepB c))) : b = plainB c := by rw [plainB_eq, h]
set_option maxHeartbeats 1000000 in
theorem cplain_any (c : UInt8) (w : World) :
    Calls Tryd.prog 36 #[.int .u8 (c.toNat : Int)] w fun e w' => e = .returned (.bool (plainB c)) ∧ w = w' := by
  have hcs : c.toNat < 33 ∨ 126 < c.toNat ∨ (33 ≤ c.toNat ∧ c.toNat ≤ 126) := by omega
  go_enter Tryd.func36, Tryd.ntmps36
  rcases hcs with h | h | ⟨h1, h2⟩
  · go_wp2_with fail
    go_ret
    exact ⟨ret_bool (plain_of (by simp [Nat.not_le.2 h])), rfl⟩
  · go_wp2_with fail
    go_ret
    exact ⟨ret_bool (plain_of (by simp [Nat.not_le.2 h])), rfl⟩
  · cases hs : sepB c with
    | true =>
      have h0 := (sep_index c).1 hs
      obtain ⟨i, hi⟩ := Int.eq_ofNat_of_zero_le h0
      have HI := Lib.hid hi
      have HS := Lib.hid hs
      clear hi h0 hs
      go_wp2_with fail
      refine (index_sep c w).mono ?_
      rintro e w1 ⟨rfl, rfl⟩
      rw [HI.out]
      go_wp2_with fail
      go_ret
      exact ⟨ret_bool (plain_of (by simp [HS.out])), rfl⟩
    | false =>
      have h0 := (sep_index c).2 hs
      have HI := Lib.hid h0
      have HS := Lib.hid hs
      clear h0 hs
      go_wp2_with fail
      refine (index_sep c w).mono ?_
      rintro e w1 ⟨rfl, rfl⟩
      rw [HI.out]
      go_wp2_with fail
      go_ret
      exact ⟨ret_bool (plain_of (by simp [HS.out, h1, h2])), rfl⟩

theorem esc_step1 {s : ByteArray} {k : Nat} {pre L : List UInt8} (hk : k < s.size) (hp : plainB s[k] = true) (HP : pre ++ escL (s.data.toList.drop k) = L) :
    (pre ++ [s[k]]) ++ escL (s.data.toList.drop (k + 1)) = L := by
  rw [drop_cons s k hk, escL, escC, if_pos hp] at HP
  rw [← HP]; simp
theorem esc_step3 {s : ByteArray} {k c a b : Nat} {pre L : List UInt8} (hk : k < s.size) (hp : plainB s[k] = false) (hc : s[k].toNat = c) (ha : c / 16 = a) (hb : c % 16 = b) (HP : pre ++ escL (s.data.toList.drop k) = L) :
    (pre ++ [37] ++ [hexU a] ++ [hexU b]) ++ escL (s.data.toList.drop (k + 1)) = L := by
  rw [drop_cons s k hk, escL, escC, if_neg (by rw [hp]; decide), hc, ha, hb] at HP
  rw [← HP]; simp
theorem esc_end {s : ByteArray} {k : Nat} {pre : List UInt8} (hk : ¬ k < s.size) (HP : pre ++ escL (s.data.toList.drop k) = escL s.data.toList) : (⟨pre.toArray⟩ : ByteArray) = escS s := by
  rw [List.drop_of_length_le (by simp; have : s.size = s.data.size := rfl; omega), escL, List.append_nil] at HP
  rw [escS, ← HP]

set_option maxHeartbeats 2000000 in
theorem esc_any (s : ByteArray) (w : World) (hs : s.size ≤ 1000000000) :
    Calls Tryd.prog 14 #[.string s] w fun e w' => e = .returned (.string (escS s)) ∧ Below w.heap.size w w' := by
  go_enter Tryd.func14, Tryd.ntmps14
  go_wp2_with fail
  go_loopw [4, 5, 8] (fun _ _ j wr => ∃ (k : Nat) (pre : List UInt8), k ≤ s.size ∧ j = .int .i64 k ∧ Bld w.heap.size w.heap.size pre wr ∧ Hid (pre ++ escL (s.data.toList.drop k) = escL s.data.toList) ∧ pre.length ≤ 3 * k ∧ Below w.heap.size w wr) (fun _ _ i _ => s.size - (intOf i).toNat)
  case atStart => exact ⟨0, [], Nat.zero_le _, rfl, Bld.fresh w, Lib.hid rfl, Nat.zero_le _, (Below.refl _ _).alloc (Nat.le_refl _) _⟩
  case round =>
    obtain ⟨k, pre, hk, rfl, hB, HP, hpl, hbr⟩ := hrel
    by_cases hlt : k < s.size
    · cases hp : plainB s[k] with
      | true =>
        have HQ := Lib.hid hp
        go_wp2_with fail
        refine (cplain_any s[k] wr).mono ?_
        rintro e w1 ⟨rfl, rfl⟩
        rw [hp]
        clear hp
        go_wp2_with fail
        refine (writeByte_any _ _ pre _ _ hB (by omega) hbr.size).mono ?_
        rintro e w1 ⟨rfl, hB1, hb1⟩
        go_wp2_with fail
        go_roundw
        case rel => exact ⟨k + 1, pre ++ [s[k]], by omega, by go_num, hB1, Lib.hid (esc_step1 hlt HQ.out HP.out), by simp; omega, hbr.trans hb1⟩
        case measure => simp [intOf]; omega
      | false =>
        have HQ := Lib.hid hp
        obtain ⟨c, hc⟩ : ∃ c, s[k].toNat = c := ⟨_, rfl⟩
        have HC := Lib.hid hc
        have hcl : c < 256 := hc ▸ s[k].toNat_lt
        obtain ⟨a, HA⟩ : ∃ a, Hid (c / 16 = a) := ⟨_, Lib.hid rfl⟩
        have hal : a < 16 := by have := HA.out; omega
        have ea : (c : Int) / 16 = (a : Int) := by have := HA.out; omega
        obtain ⟨b, HB⟩ : ∃ b, Hid (c % 16 = b) := ⟨_, Lib.hid rfl⟩
        have hbl : b < 16 := by have := HB.out; omega
        have eb : bits BinOp.and IntKind.u8 (c : Int) 15 = (b : Int) := by rw [u8_and15 _ (by omega) (by omega)]; have := HB.out; omega
        have hcp := cplain_any s[k] wr
        rw [hc, hp] at hcp
        clear hp
        go_wp2_with fail
        refine hcp.mono ?_
        rintro e w1 ⟨rfl, rfl⟩
        go_wp2_with fail
        refine (writeByte_any _ _ pre 37 _ hB (by omega) hbr.size).mono ?_
        rintro e w1 ⟨rfl, hB1, hb1⟩
        have hbr1 := hbr.trans hb1
        have eA := hex_lit a hal
        have eB := hex_lit b hbl
        go_wp2_with fail
        refine (writeByte_any _ _ _ _ _ hB1 (by simp; omega) hbr1.size).mono ?_
        rintro e w2 ⟨rfl, hB2, hb2⟩
        have hbr2 := hbr1.trans hb2
        go_wp2_with fail
        refine (writeByte_any _ _ _ _ _ hB2 (by simp; omega) hbr2.size).mono ?_
        rintro e w3 ⟨rfl, hB3, hb3⟩
        go_wp2_with fail
        have hP := esc_step3 hlt HQ.out HC.out HA.out HB.out HP.out
        go_roundw
        case rel => exact ⟨k + 1, _, by omega, by go_num, hB3, Lib.hid hP, by simp; omega, hbr2.trans hb3⟩
        case measure => simp [intOf]; omega
    · go_wp2_with fail
      refine (bldString_any _ _ pre _ hB hbr.size).mono ?_
      rintro e w1 ⟨rfl, hb1⟩
      go_wp2_with fail
      go_ret
      exact ⟨ret_str (esc_end hlt HP.out), hbr.trans hb1⟩

theorem quiet_eq {P : Program} {f : FuncId} {args : Array Value} {w : World} {n : Nat} {v : Value}
    (h : Calls P f args (w.drewN n) fun e w' => e = .returned v ∧ w.drewN n = w') : Calls P f args (w.drewN n) fun e w'' => e = .returned v ∧ ∃ m, w'' = w.drewN m :=
  h.mono fun _ _ ⟨he, hm⟩ => ⟨he, n, hm.symm⟩
theorem Bld.drewN {B b : Nat} {l : List UInt8} {w : World} (h : Bld B b l w) {n : Nat} : Bld B b l (w.drewN n) := h
theorem un_plain {s : ByteArray} {k : Nat} {pre : List UInt8} {L : Option (List UInt8)} (hk : k < s.size) (hp : plainB s[k] = true) (HP : (unE (s.data.toList.drop k) 0).map (pre ++ ·) = L) :
    (unE (s.data.toList.drop (k + 1)) 0).map ((pre ++ [s[k]]) ++ ·) = L := by
  rw [drop_cons s k hk, unE, if_pos hp, r64_snoc] at HP
  exact HP
theorem un_bad {s : ByteArray} {k : Nat} {pre : List UInt8} {L : Option (List UInt8)} (hk : k < s.size) (hp : plainB s[k] = false) (h37 : s[k].toNat ≠ 37) (HP : (unE (s.data.toList.drop k) 0).map (pre ++ ·) = L) : L = none := by
  rw [drop_cons s k hk, unE, if_neg (by rw [hp]; decide), if_neg (by intro e; rw [e] at h37; exact h37 rfl)] at HP
  rw [← HP]; rfl
theorem u37 {c : UInt8} (h : c.toNat = 37) : c = 37 := UInt8.toNat_inj.1 h
theorem un_short {s : ByteArray} {k : Nat} {pre : List UInt8} {L : Option (List UInt8)} (hk : k < s.size) (h37 : s[k].toNat = 37) (hs : ¬ k + 2 < s.size) (HP : (unE (s.data.toList.drop k) 0).map (pre ++ ·) = L) : L = none := by
  rw [drop_cons s k hk, u37 h37, unE, if_neg (by decide), if_pos rfl] at HP
  rw [← HP]
  by_cases h1 : k + 1 < s.size
  · rw [drop_cons s (k + 1) h1, unE, List.drop_of_length_le (by simp; have : s.size = s.data.size := rfl; omega)]
    cases hexV s[k + 1] <;> rfl
  · rw [List.drop_of_length_le (by simp; have : s.size = s.data.size := rfl; omega)]; rfl
theorem un_hex {s : ByteArray} {k : Nat} {pre : List UInt8} {L : Option (List UInt8)} (hs : k + 2 < s.size) (h37 : s[k].toNat = 37) (HP : (unE (s.data.toList.drop k) 0).map (pre ++ ·) = L) :
    (((hexV s[k + 1]).bind fun a => (hexV s[k + 2]).bind fun b => if plainB (UInt8.ofNat (a * 16 + b)) then none else (unE (s.data.toList.drop (k + 3)) 0).map (UInt8.ofNat (a * 16 + b) :: ·)).map (pre ++ ·)) = L := by
  rw [drop_cons s k (by omega), u37 h37, unE, if_neg (by decide), if_pos rfl, drop_cons s (k + 1) (by omega), unE, drop_cons s (k + 2) hs] at HP
  rw [← HP]
  cases hexV s[k + 1] with
  | none => rfl
  | some a => rw [Option.bind_some, Option.bind_some, unE]
theorem un_end {s : ByteArray} {k : Nat} {pre : List UInt8} (hk : ¬ k < s.size) (HP : (unE (s.data.toList.drop k) 0).map (pre ++ ·) = unE s.data.toList 0) : unescO s = some ⟨pre.toArray⟩ := by
  rw [List.drop_of_length_le (by simp; have : s.size = s.data.size := rfl; omega), unE] at HP
  rw [unescO, ← HP]; simp
theorem un_none {s : ByteArray} (h : unE s.data.toList 0 = none) : unescS s = ⟨#[]⟩ ∧ unescE s = 4 := by
  simp [unescS, unescE, unescO, h]; rfl
theorem un_some {s t : ByteArray} (h : unescO s = some t) : unescS s = t ∧ unescE s = 0 := by
  simp [unescS, unescE, h]

set_option maxHeartbeats 4000000 in
theorem unesc_any (s : ByteArray) (w : World) (hs : s.size ≤ 1000000000) :
    Calls Tryd.prog 13 #[.string s] w fun e w' => e = .returned (.tuple #[.string (unescS s), .int .i64 (unescE s)]) ∧ Below w.heap.size w w' := by
  go_enter Tryd.func13, Tryd.ntmps13
  go_wp2_with fail
  go_loopw [5, 6, 7] (fun j _ _ wr => ∃ (k : Nat) (pre : List UInt8), k ≤ s.size ∧ j = .int .i64 k ∧ Bld w.heap.size w.heap.size pre wr ∧ Hid ((unE (s.data.toList.drop k) 0).map (pre ++ ·) = unE s.data.toList 0) ∧ pre.length ≤ k ∧ Below w.heap.size w wr) (fun i _ _ _ => s.size - (intOf i).toNat)
  case atStart => exact ⟨0, [], Nat.zero_le _, rfl, Bld.fresh w, Lib.hid (by simp), Nat.zero_le _, (Below.refl _ _).alloc (Nat.le_refl _) _⟩
  case round =>
    obtain ⟨k, pre, hk, rfl, hB, HP, hpl, hbr⟩ := hrel
    by_cases hlt : k < s.size
    · cases hp : plainB s[k] with
      | true =>
        have HQ := Lib.hid hp
        go_wp2_with fail
        refine (cplain_any s[k] wr).mono ?_
        rintro e w1 ⟨rfl, rfl⟩
        rw [hp]
        clear hp
        go_wp2_with fail
        refine (writeByte_any _ _ pre _ _ hB (by omega) hbr.size).mono ?_
        rintro e w1 ⟨rfl, hB1, hb1⟩
        go_wp2_with fail
        go_roundw
        case rel => exact ⟨k + 1, pre ++ [s[k]], by omega, by go_num, hB1, Lib.hid (un_plain hlt HQ.out HP.out), by simp; omega, hbr.trans hb1⟩
        case measure => simp [intOf]; omega
      | false =>
        have HQ := Lib.hid hp
        by_cases h37 : s[k].toNat = 37
        · have hcp := cplain_any s[k] wr
          have H37 := Lib.hid h37
          rw [h37, hp] at hcp
          clear hp
          by_cases h2 : k + 2 < s.size
          · have HX := un_hex h2 H37.out HP.out
            have hw1 : IntKind.i64.wrap ((k : Int) + 1) = (k : Int) + 1 := IntWalk.i64_in _ (by omega)
            have hb1a : (0 : Int) ≤ (k : Int) + 1 := by omega
            have hb1b : (k : Int) + 1 < (s.size : Int) := by omega
            have hb2a : (0 : Int) ≤ (k : Int) + 2 := by omega
            have hb2b : (k : Int) + 2 < (s.size : Int) := by omega
            have hw2 : IntKind.i64.wrap ((k : Int) + 2) = (k : Int) + 2 := IntWalk.i64_in _ (by omega)
            cases h1 : hexV s[k + 1] with
            | none =>
              rw [h1, Option.bind_none, Option.map_none] at HX
              have hN := Lib.hid (un_none HX.symm)
              have H1 := Lib.hid h1
              clear h1 HX
              obtain ⟨z, hz⟩ : ∃ z, Lib.indexByte hexTab.data.toList s[k + 2] = z := ⟨_, rfl⟩
              have HZ := Lib.hid hz
              clear hz
              go_wp2_with fail
              refine hcp.mono ?_
              rintro e w1 ⟨rfl, rfl⟩
              go_wp2_with fail
              go_quiet (first | (exact quiet_eq (index_hex_none _ _ H1.out)) | (exact quiet_eq (index_hex_at _ _ _ HZ.out)))
              go_wp2_with fail
              go_ret2
              exact ⟨ret_se hN.out.1.symm hN.out.2.symm, below_drewN hbr _⟩
            | some a =>
              rw [h1, Option.bind_some] at HX
              have H1 := Lib.hid h1
              have hal := hexV_lt h1
              clear h1
              cases hv2 : hexV s[k + 2] with
              | none =>
                rw [hv2, Option.bind_none, Option.map_none] at HX
                have hN := Lib.hid (un_none HX.symm)
                have H2 := Lib.hid hv2
                clear hv2 HX
                go_wp2_with fail
                refine hcp.mono ?_
                rintro e w1 ⟨rfl, rfl⟩
                go_wp2_with fail
                go_quiet (first | (exact quiet_eq (index_hex_some _ _ _ H1.out)) | (exact quiet_eq (index_hex_none _ _ H2.out)))
                go_wp2_with fail
                go_ret2
                exact ⟨ret_se hN.out.1.symm hN.out.2.symm, below_drewN hbr _⟩
              | some b =>
                rw [hv2, Option.bind_some] at HX
                have H2 := Lib.hid hv2
                have hbl := hexV_lt hv2
                clear hv2
                obtain ⟨z, HZ⟩ : ∃ z, Hid (a * 16 + b = z) := ⟨_, Lib.hid rfl⟩
                have hz0 : 0 ≤ (z : Int) := by omega
                have eor : bits BinOp.or IntKind.i64 ((a : Int) * 16) (b : Int) = (z : Int) := by rw [or_four a b (by omega) (by omega) (by omega) (by omega)]; have := HZ.out; omega
                obtain ⟨q, HQq⟩ : ∃ q, Hid (UInt8.ofNat (a * 16 + b) = q) := ⟨_, Lib.hid rfl⟩
                have eb : IntKind.u8.wrap (z : Int) = (q.toNat : Int) := by rw [wrap_u8, ← HQq.out, HZ.out]
                rw [HQq.out] at HX
                cases hq : plainB q with
                | true =>
                  rw [hq, if_pos rfl, Option.map_none] at HX
                  have hN := Lib.hid (un_none HX.symm)
                  clear HX
                  go_wp2_with fail
                  refine hcp.mono ?_
                  rintro e w1 ⟨rfl, rfl⟩
                  go_wp2_with fail
                  go_quiet (first | (exact quiet_eq (index_hex_some _ _ _ H1.out)) | (exact quiet_eq (index_hex_some _ _ _ H2.out)))
                  go_wp2_with fail
                  refine (cplain_any q _).mono ?_
                  rintro e w1 ⟨rfl, rfl⟩
                  rw [hq]
                  clear hq
                  go_wp2_with fail
                  go_ret2
                  exact ⟨ret_se hN.out.1.symm hN.out.2.symm, below_drewN hbr _⟩
                | false =>
                  rw [hq, if_neg (by decide), r64_snoc] at HX
                  have HP1 := Lib.hid HX
                  clear HX
                  go_wp2_with fail
                  refine hcp.mono ?_
                  rintro e w1 ⟨rfl, rfl⟩
                  go_wp2_with fail
                  go_quiet (first | (exact quiet_eq (index_hex_some _ _ _ H1.out)) | (exact quiet_eq (index_hex_some _ _ _ H2.out)))
                  go_wp2_with fail
                  refine (cplain_any q _).mono ?_
                  rintro e w1 ⟨rfl, rfl⟩
                  rw [hq]
                  clear hq
                  go_wp2_with fail
                  have hBq : Bld w.heap.size w.heap.size pre (wr.drewN nq) := Bld.drewN hB
                  have hbq := below_drewN hbr nq
                  refine (writeByte_any _ _ pre _ _ hBq (by omega) hbq.size).mono ?_
                  rintro e w1 ⟨rfl, hB1, hb1⟩
                  go_wp2_with fail
                  go_roundw
                  case rel => exact ⟨k + 3, pre ++ [q], by omega, by go_num, hB1, HP1, by simp; omega, hbq.trans hb1⟩
                  case measure => simp [intOf]; omega
          · have hN := Lib.hid (un_none (un_short hlt H37.out h2 HP.out))
            go_wp2_with fail
            refine hcp.mono ?_
            rintro e w1 ⟨rfl, rfl⟩
            go_wp2_with fail
            go_ret2
            exact ⟨ret_se hN.out.1.symm hN.out.2.symm, hbr⟩
        · have hN := Lib.hid (un_none (un_bad hlt hp h37 HP.out))
          go_wp2_with fail
          refine (cplain_any s[k] wr).mono ?_
          rintro e w1 ⟨rfl, rfl⟩
          rw [hp]
          clear hp
          go_wp2_with fail
          go_ret2
          exact ⟨ret_se hN.out.1.symm hN.out.2.symm, hbr⟩
    · have hS := Lib.hid (un_some (un_end hlt HP.out))
      go_wp2_with fail
      refine (bldString_any _ _ pre _ hB hbr.size).mono ?_
      rintro e w1 ⟨rfl, hb1⟩
      go_wp2_with fail
      go_ret2
      exact ⟨ret_se hS.out.1.symm hS.out.2.symm, hbr.trans hb1⟩
end Go.Proofs.YtnkblimmlkidcaaDoor
