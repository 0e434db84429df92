/- Joined: FoldWord, Clock, AudPlain, AudOpen, RefWord. -/
import Derived.Test.YthdpkfddmkijlaaGreatDoorSeg1
import Derived.Test.YthdpkfddmkijlaaGreatDoorSeg3
/- fold.Word: a word is 1 to 64 bytes, each a letter, a digit, or one of - _ . : -/

namespace Go.Proofs.YthdpkfddmkijlaaGreatDoor
open Go.RowKit

/-- A letter or a digit. -/
def alnumC (c : UInt8) : Bool := decide ((97 ≤ c.toNat ∧ c.toNat ≤ 122) ∨ (65 ≤ c.toNat ∧ c.toNat ≤ 90) ∨ (48 ≤ c.toNat ∧ c.toNat ≤ 57))
/-- A byte of a word. -/
def wordC (c : UInt8) : Bool := alnumC c || decide (c.toNat = 45 ∨ c.toNat = 95 ∨ c.toNat = 46 ∨ c.toNat = 58)
def wordS (s : ByteArray) : Bool := decide (1 ≤ s.size ∧ s.size ≤ 64) && s.data.toList.all wordC
theorem alnumC_mk {c : UInt8} {b : Bool} (h : b = true ↔ ((97 ≤ c.toNat ∧ c.toNat ≤ 122) ∨ (65 ≤ c.toNat ∧ c.toNat ≤ 90) ∨ (48 ≤ c.toNat ∧ c.toNat ≤ 57))) : b = alnumC c := by
  rw [Bool.eq_iff_iff, h, alnumC, decide_eq_true_iff]
theorem wordC_mk {c : UInt8} {b : Bool} (h : b = true ↔ (((97 ≤ c.toNat ∧ c.toNat ≤ 122) ∨ (65 ≤ c.toNat ∧ c.toNat ≤ 90) ∨ (48 ≤ c.toNat ∧ c.toNat ≤ 57)) ∨ (c.toNat = 45 ∨ c.toNat = 95 ∨ c.toNat = 46 ∨ c.toNat = 58))) : b = wordC c := by
  rw [Bool.eq_iff_iff, h, wordC, alnumC, Bool.or_eq_true, decide_eq_true_iff, decide_eq_true_iff]

set_option maxHeartbeats 1000000 in
theorem wordByte_any (c : UInt8) (w : World) :
    Calls Tryz.prog 73 #[.int .u8 (c.toNat : Int)] w fun e w' => e = .returned (.bool (wordC c)) ∧ w = w' := by
  have hcs : (97 ≤ c.toNat ∧ c.toNat ≤ 122) ∨ (65 ≤ c.toNat ∧ c.toNat ≤ 90) ∨ (48 ≤ c.toNat ∧ c.toNat ≤ 57) ∨ c.toNat = 45 ∨ c.toNat = 95 ∨ c.toNat = 46 ∨ c.toNat = 58 ∨ (c.toNat < 45) ∨ c.toNat = 47 ∨ (58 < c.toNat ∧ c.toNat < 65) ∨ (90 < c.toNat ∧ c.toNat < 95) ∨ c.toNat = 96 ∨ 122 < c.toNat := by omega
  go_enter Tryz.func73, Tryz.ntmps73
  generalize hn : c.toNat = n at *
  have HN := Lib.hid hn
  clear hn
  rcases hcs with ⟨h1, h2⟩ | ⟨h1, h2⟩ | ⟨h1, h2⟩ | rfl | rfl | rfl | rfl | h | rfl | ⟨h1, h2⟩ | ⟨h1, h2⟩ | rfl | h
  all_goals
    go_wp2
    go_ret
    exact ⟨ret_bool (wordC_mk (by rw [HN.out]; simp; try omega)), rfl⟩

theorem take_all {s : ByteArray} {k : Nat} {p : UInt8 → Bool} (h : k < s.size) (ha : (s.data.toList.take k).all p = true) (hc : p s[k] = true) : (s.data.toList.take (k + 1)).all p = true := by
  rw [take_snoc s k h, List.all_append, ha]; simp [hc]
theorem all_bad {s : ByteArray} {k : Nat} {p : UInt8 → Bool} (h : k < s.size) (hc : p s[k] = false) : s.data.toList.all p = false := by
  rw [List.all_eq_false]
  exact ⟨s[k], by rw [← Array.mem_def]; exact Array.getElem_mem _, by simp [hc]⟩
theorem all_done {s : ByteArray} {k : Nat} {p : UInt8 → Bool} (h : ¬ k < s.size) (ha : (s.data.toList.take k).all p = true) : s.data.toList.all p = true := by
  rwa [List.take_of_length_le (by simp; have : s.size = s.data.size := rfl; omega)] at ha
set_option maxHeartbeats 1000000 in
theorem made_word (s : ByteArray) (w : World) (hs : s.size ≤ 9223372036854775807) :
    Calls Tryz.prog 72 #[.string s, .func (.func 73) #[] #[]] w fun e w' => e = .returned (.bool (wordS s)) ∧ w = w' := by
  go_enter Tryz.func72, Tryz.ntmps72
  go_wp2_with fail
  go_loop [5, 8] (fun _ j => ∃ k : Nat, k ≤ s.size ∧ j = .int .i64 k ∧ Hid ((s.data.toList.take k).all wordC = true)) (fun _ i => s.size - (intOf i).toNat)
  case atStart => exact ⟨0, Nat.zero_le _, rfl, Lib.hid (by simp)⟩
  case round =>
    obtain ⟨k, hk, rfl, HA⟩ := hrel
    by_cases hlt : k < s.size
    · go_wp2_with fail
      cases hc : wordC s[k] with
      | false =>
        have HC := Lib.hid hc
        refine (wordByte_any s[k] w).mono ?_
        rintro e w1 ⟨rfl, rfl⟩
        rw [hc]
        clear hc
        go_wp2_with fail
        go_ret
        exact ⟨ret_bool (by rw [wordS, all_bad hlt HC.out, Bool.and_false]), rfl⟩
      | true =>
        have HC := Lib.hid hc
        refine (wordByte_any s[k] w).mono ?_
        rintro e w1 ⟨rfl, rfl⟩
        rw [hc]
        clear hc
        go_wp2_with fail
        go_round
        case rel => exact ⟨k + 1, by omega, by go_num, Lib.hid (take_all hlt HA.out HC.out)⟩
        case measure => simp [intOf]; omega
    · have HD := Lib.hid (all_done hlt HA.out)
      by_cases h0 : s.size = 0
      · have he : s.toList = [] := by rw [Lib.toList_data]; exact List.eq_nil_of_length_eq_zero (by simpa using h0)
        have hb : (s.toList.isEmpty) = true := by rw [he]; rfl
        have H0 := Lib.hid h0
        clear h0 he
        go_wp2_with fail
        go_ret
        exact ⟨ret_bool (by rw [wordS, H0.out]; simp), rfl⟩
      · have hb : (s.toList.isEmpty) = false := by
          rw [Lib.toList_data]
          cases hl : s.data.toList with
          | nil => exact absurd (by have := congrArg List.length hl; simpa using this) h0
          | cons a l => rfl
        have h1 : 1 ≤ s.size := by omega
        clear h0
        by_cases h64 : s.size ≤ 64
        · go_wp2_with fail
          go_ret
          exact ⟨ret_bool (by rw [wordS, HD.out]; simp [h1, h64]; omega), rfl⟩
        · go_wp2_with fail
          go_ret
          exact ⟨ret_bool (by rw [wordS, HD.out]; simp [h64]; omega), rfl⟩
/-- fold.Word. -/
theorem word_any (s : ByteArray) (w : World) (hs : s.size ≤ 9223372036854775807) :
    Calls Tryz.prog 46 #[.string s] w fun e w' => e = .returned (.bool (wordS s)) ∧ w = w' := by
  go_enter Tryz.func46, Tryz.ntmps46
  go_wp2_with fail
  refine (made_word s w hs).mono ?_
  rintro e w1 ⟨rfl, rfl⟩
  go_wp2_with fail
  go_ret
  exact ⟨rfl, rfl⟩
end Go.Proofs.YthdpkfddmkijlaaGreatDoor

/- Instants: clock.Valid and its reference. -/
namespace Go.Proofs.YthdpkfddmkijlaaGreatDoor
open Go.RowKit

def validT (t : Int) : Bool := decide (0 ≤ t ∧ t ≤ 1099511627776)
/-- The nearest instant. -/
def limT (t : Int) : Int := min (max t 0) 1099511627776
theorem climited_any (t : Int) (w : World) :
    Calls Tryz.prog 71 #[.int .i64 t] w fun e w' => e = .returned (.int .i64 (limT t)) ∧ w = w' := by
  go_enter Tryz.func71, Tryz.ntmps71
  go_wp2_with fail
  all_goals
    go_ret
    exact ⟨ret_int (by unfold limT; omega), rfl⟩
theorem cvalid_any (t : Int) (w : World) :
    Calls Tryz.prog 45 #[.int .i64 t] w fun e w' => e = .returned (.bool (validT t)) ∧ w = w' := by
  have HV : Hid ((t == limT t) = validT t) := Lib.hid (by
    unfold limT validT
    by_cases h : 0 ≤ t ∧ t ≤ 1099511627776
    · rw [decide_eq_true h, beq_iff_eq]; omega
    · rw [decide_eq_false h, beq_eq_false_iff_ne]; omega)
  obtain ⟨m, HM⟩ : ∃ m, Hid (limT t = m) := ⟨_, Lib.hid rfl⟩
  rw [HM.out] at HV
  go_enter Tryz.func45, Tryz.ntmps45
  go_wp2_with fail
  refine (climited_any t w).mono ?_
  rintro e w1 ⟨rfl, rfl⟩
  rw [HM.out]
  go_wp2_with fail
  go_ret
  exact ⟨ret_bool HV.out, rfl⟩
theorem rvalidT_any (t : Int) (w : World) :
    Calls Tryz.prog 49 #[.int .i64 t] w fun e w' => e = .returned (.bool (validT t)) ∧ w = w' := by
  by_cases h0 : 0 ≤ t
  · have HV : Hid (decide (t ≤ 1099511627776) = validT t) := Lib.hid (by
      unfold validT; exact decide_eq_decide.2 ⟨fun h => ⟨h0, h⟩, fun h => h.2⟩)
    go_enter Tryz.func49, Tryz.ntmps49
    go_wp2_with fail
    go_ret
    exact ⟨ret_bool HV.out, rfl⟩
  · have HV : Hid (false = validT t) := Lib.hid (by unfold validT; exact (decide_eq_false (fun h => h0 h.1)).symm)
    go_enter Tryz.func49, Tryz.ntmps49
    go_wp2_with fail
    go_ret
    exact ⟨ret_bool HV.out, rfl⟩
end Go.Proofs.YthdpkfddmkijlaaGreatDoor

/- Audit events: plain. -/
namespace Go.Proofs.YthdpkfddmkijlaaGreatDoor
open Go.RowKit

/-- An event. -/
structure Ev where
  time : Int
  tenant : ByteArray
  actor : ByteArray
  action : ByteArray
  object : ByteArray
  result : Int
theorem Ev.eq {a b : Ev} (h1 : a.time = b.time) (h2 : a.tenant = b.tenant) (h3 : a.actor = b.actor) (h4 : a.action = b.action) (h5 : a.object = b.object) (h6 : a.result = b.result) : a = b := by
  cases a; cases b; simp_all
/-- Its value. -/
def evV (e : Ev) : Value := .agg #[.int .i64 e.time, .string e.tenant, .string e.actor, .string e.action, .string e.object, .int .i64 e.result]

def optW (s : ByteArray) : Bool := decide (s.size = 0) || wordS s
def evNames (e : Ev) : Bool := wordS e.tenant && wordS e.action && optW e.actor && optW e.object
def resOk (n : Int) : Bool := decide (0 ≤ n ∧ n ≤ 32)
def evParts (e : Ev) : List ByteArray := [itoaS e.time, e.tenant, e.actor, e.action, e.object, itoaS e.result]
def lineE (e : Ev) : Int := if validT e.time = true then (if evNames e = true then (if resOk e.result = true then 0 else 2) else 5) else 2
def lineS (e : Ev) : ByteArray := if lineE e = 0 then joinS (evParts e) else ⟨#[]⟩
theorem lineE_ok {e : Ev} (h : lineE e = 0) : validT e.time = true ∧ evNames e = true ∧ resOk e.result = true := by
  unfold lineE at h
  by_cases h1 : validT e.time = true
  · rw [if_pos h1] at h
    by_cases h2 : evNames e = true
    · rw [if_pos h2] at h
      by_cases h3 : resOk e.result = true
      · exact ⟨h1, h2, h3⟩
      · rw [if_neg h3] at h; omega
    · rw [if_neg h2] at h; omega
  · rw [if_neg h1] at h; omega
theorem lineE_mk {e : Ev} (h1 : validT e.time = true) (h2 : evNames e = true) (h3 : resOk e.result = true) : lineE e = 0 := by
  rw [lineE, if_pos h1, if_pos h2, if_pos h3]
theorem lineS_ok {e : Ev} (h : lineE e = 0) : lineS e = joinS (evParts e) := by rw [lineS, if_pos h]
theorem lineS_bad {e : Ev} (h : lineE e ≠ 0) : lineS e = ⟨#[]⟩ := by rw [lineS, if_neg h]
theorem wordS_size {s : ByteArray} (h : wordS s = true) : 1 ≤ s.size ∧ s.size ≤ 64 := by
  rw [wordS, Bool.and_eq_true, decide_eq_true_iff] at h; exact h.1
theorem optW_size {s : ByteArray} (h : optW s = true) : s.size ≤ 64 := by
  rw [optW, Bool.or_eq_true, decide_eq_true_iff] at h
  rcases h with h | h
  · omega
  · exact (wordS_size h).2
theorem evNames_size {e : Ev} (h : evNames e = true) : e.tenant.size ≤ 64 ∧ e.actor.size ≤ 64 ∧ e.action.size ≤ 64 ∧ e.object.size ≤ 64 := by
  rw [evNames, Bool.and_eq_true, Bool.and_eq_true, Bool.and_eq_true] at h
  exact ⟨(wordS_size h.1.1.1).2, optW_size h.1.2, (wordS_size h.1.1.2).2, optW_size h.2⟩
theorem validT_in {t : Int} (h : validT t = true) : 0 ≤ t ∧ t ≤ 1099511627776 := by rw [validT, decide_eq_true_iff] at h; exact h
theorem resOk_in {t : Int} (h : resOk t = true) : 0 ≤ t ∧ t ≤ 32 := by rw [resOk, decide_eq_true_iff] at h; exact h
theorem evParts_size {e : Ev} (h1 : validT e.time = true) (h2 : evNames e = true) (h3 : resOk e.result = true) : ∀ s ∈ evParts e, s.size ≤ 64 := by
  have h := evNames_size h2
  have e1 := validT_in h1
  have e2 := resOk_in h3
  have z1 := itoaS_size e.time (by omega) (by omega)
  have z2 := itoaS_size e.result (by omega) (by omega)
  intro s hs
  simp only [evParts, List.mem_cons, List.not_mem_nil, or_false] at hs
  rcases hs with rfl | rfl | rfl | rfl | rfl | rfl <;> omega
theorem lineS_size (e : Ev) : (lineS e).size ≤ 2000 := by
  by_cases h : lineE e = 0
  · obtain ⟨h1, h2, h3⟩ := lineE_ok h
    rw [lineS_ok h]
    have := joinS_le (evParts e) 64 (evParts_size h1 h2 h3)
    have e6 : (evParts e).length = 6 := rfl
    rw [e6] at this; omega
  · rw [lineS_bad h]; show 0 ≤ _; omega
/-- The event of six strings. -/
def evOf (l : List ByteArray) : Ev := ⟨(readIntP (l.getD 0 ⟨#[]⟩)).1, l.getD 1 ⟨#[]⟩, l.getD 2 ⟨#[]⟩, l.getD 3 ⟨#[]⟩, l.getD 4 ⟨#[]⟩, (readIntP (l.getD 5 ⟨#[]⟩)).1⟩
def zeroEv : Ev := ⟨0, ⟨#[]⟩, ⟨#[]⟩, ⟨#[]⟩, ⟨#[]⟩, 0⟩
open Classical in
noncomputable def parseOk (s : ByteArray) : Bool := decide (splitErr s = 0 ∧ (splitS s).length = 6 ∧ lineE (evOf (splitS s)) = 0 ∧ lineS (evOf (splitS s)) = s)
noncomputable def parseS (s : ByteArray) : Ev := if parseOk s = true then evOf (splitS s) else zeroEv
noncomputable def parseE (s : ByteArray) : Int := if parseOk s = true then 0 else 4
theorem parseOk_mk {s : ByteArray} (h1 : splitErr s = 0) (h2 : (splitS s).length = 6) (h3 : lineE (evOf (splitS s)) = 0) (h4 : lineS (evOf (splitS s)) = s) : parseOk s = true := by
  rw [parseOk, decide_eq_true_iff]; exact ⟨h1, h2, h3, h4⟩
theorem parseOk_parts {s : ByteArray} (h : parseOk s = true) : splitErr s = 0 ∧ (splitS s).length = 6 ∧ lineE (evOf (splitS s)) = 0 ∧ lineS (evOf (splitS s)) = s := by
  rw [parseOk, decide_eq_true_iff] at h; exact h
theorem parse_ok {s : ByteArray} (h : parseOk s = true) : parseS s = evOf (splitS s) ∧ parseE s = 0 := by rw [parseS, parseE, if_pos h, if_pos h]; exact ⟨rfl, rfl⟩
theorem parse_bad {s : ByteArray} (h : ¬ parseOk s = true) : parseS s = zeroEv ∧ parseE s = 4 := by rw [parseS, parseE, if_neg h, if_neg h]; exact ⟨rfl, rfl⟩
theorem evOf_parts (e : Ev) (h : lineE e = 0) : evOf (evParts e) = e := by
  obtain ⟨h1, _, h3⟩ := lineE_ok h
  have e1 := validT_in h1
  have e2 := resOk_in h3
  have r1 := readInt_itoa e.time (by omega) (by omega)
  have r2 := readInt_itoa e.result (by omega) (by omega)
  cases e
  simp only [evOf, evParts, List.getD_cons_zero, List.getD_cons_succ] at r1 r2 ⊢
  rw [r1, r2]
theorem split_line {e : Ev} (h : lineE e = 0) : splitO (lineS e) = some (evParts e) := by
  rw [lineS_ok h]; exact split_joinS _
theorem split_of {s : ByteArray} {l : List ByteArray} (h : splitO s = some l) : splitS s = l ∧ splitErr s = 0 := by
  rw [splitS, splitErr, h]; exact ⟨rfl, rfl⟩
/-- What is written is read. -/
theorem line_back {e : Ev} (h : lineE e = 0) : parseOk (lineS e) = true ∧ parseS (lineS e) = e := by
  have h2 := split_of (split_line h)
  have h3 := evOf_parts e h
  have hp : parseOk (lineS e) = true := parseOk_mk h2.2 (by rw [h2.1]; rfl) (by rw [h2.1, h3]; exact h) (by rw [h2.1, h3])
  exact ⟨hp, by rw [(parse_ok hp).1, h2.1, h3]⟩
theorem lineS_inj {a b : Ev} (ha : lineE a = 0) (hb : lineE b = 0) (h : lineS a = lineS b) : a = b := by
  have h1 := (line_back ha).2
  have h2 := (line_back hb).2
  rw [← h1, ← h2, h]
/-- The numbers of a string that is a line were read. -/
theorem parse_reads {s : ByteArray} (h : parseOk s = true) : (readIntP ((splitS s).getD 0 ⟨#[]⟩)).2 = 0 ∧ (readIntP ((splitS s).getD 5 ⟨#[]⟩)).2 = 0 := by
  obtain ⟨h1, h2, h3, h4⟩ := parseOk_parts h
  have h5 := split_line h3
  rw [h4] at h5
  have h6 := (split_of h5).1
  obtain ⟨k1, _, k3⟩ := lineE_ok h3
  have e1 := validT_in k1
  have e2 := resOk_in k3
  have r1 := readInt_itoa _ (show -9223372036854775808 ≤ (evOf (splitS s)).time by omega) (by omega)
  have r2 := readInt_itoa _ (show -9223372036854775808 ≤ (evOf (splitS s)).result by omega) (by omega)
  generalize evOf (splitS s) = x at h6 r1 r2
  rw [h6]
  exact ⟨by rw [show (evParts x).getD 0 ⟨#[]⟩ = itoaS x.time from rfl, r1], by rw [show (evParts x).getD 5 ⟨#[]⟩ = itoaS x.result from rfl, r2]⟩
/-- The heads after the events, from a head on, and the error. -/
def headsF (h : ByteArray) : List Ev → List ByteArray
  | [] => []
  | e :: l => chainS h (lineS e) :: headsF (chainS h (lineS e)) l
def firstE : List Ev → Int
  | [] => 0
  | e :: l => if lineE e = 0 then firstE l else lineE e
def startS : ByteArray := textS ⟨#[]⟩
def headsS (l : List Ev) : List ByteArray := if firstE l = 0 then headsF startS l else []
/-- The head after the events. -/
def headF (h : ByteArray) (l : List Ev) : ByteArray := l.foldl (fun h e => chainS h (lineS e)) h
/-- Verify from an index on. -/
def verF (h : ByteArray) (i : Nat) : List Ev → List ByteArray → Option Nat
  | [], [] => none
  | [], _ :: _ => some i
  | _ :: _, [] => some i
  | e :: l, x :: hs => if lineE e = 0 ∧ x = chainS h (lineS e) then verF (chainS h (lineS e)) (i + 1) l hs else some i
def verC : Option Nat → Int
  | none => -1
  | some i => (i : Int)
def verS (l : List Ev) (hs : List ByteArray) : Int := verC (verF startS 0 l hs)
end Go.Proofs.YthdpkfddmkijlaaGreatDoor

/- Arguments of type api.Event and []api.Event, opened. -/
namespace Go.Proofs.YthdpkfddmkijlaaGreatDoor
open Go.ChangeShapes Go.WideShapes Go.ChangeAt Go.RowKit Go.Deep

instance : Inhabited Ev := ⟨zeroEv⟩
/-- An event's cells. -/
def evC (e : Ev) : List Value := [.int .i64 e.time, .string e.tenant, .string e.actor, .string e.action, .string e.object, .int .i64 e.result]
/-- A number of 64 bits. -/
def EvIn (e : Ev) : Prop := -9223372036854775808 ≤ e.time ∧ e.time ≤ 9223372036854775807 ∧ -9223372036854775808 ≤ e.result ∧ e.result ≤ 9223372036854775807 ∧ e.tenant.size ≤ 9223372036854775807 ∧ e.actor.size ≤ 9223372036854775807 ∧ e.action.size ≤ 9223372036854775807 ∧ e.object.size ≤ 9223372036854775807
/-- A slice's address reads as a list of events. -/
def EvsAt (w : World) (A : Option Addr) (l : List Ev) : Prop :=
  ∀ i, (h : i < l.length) → ∃ b o, A = some ⟨b, o, none⟩ ∧ w.cell? ⟨b, o + i * 6, none⟩ = some (.int .i64 l[i].time) ∧ w.cell? ⟨b, o + i * 6 + 1, none⟩ = some (.string l[i].tenant) ∧ w.cell? ⟨b, o + i * 6 + 2, none⟩ = some (.string l[i].actor) ∧ w.cell? ⟨b, o + i * 6 + 3, none⟩ = some (.string l[i].action) ∧ w.cell? ⟨b, o + i * 6 + 4, none⟩ = some (.string l[i].object) ∧ w.cell? ⟨b, o + i * 6 + 5, none⟩ = some (.int .i64 l[i].result)
theorem EvsAt.below {w w' : World} {A : Option Addr} {l : List Ev} (h : EvsAt w A l) (hb : Below w.heap.size w w') : EvsAt w' A l := by
  intro i hi
  obtain ⟨b, o, e, h0, h1, h2, h3, h4, h5⟩ := h i hi
  have hl := World.block_lt_of_cell? w _ h0
  have hc : ∀ j, w'.cell? ⟨b, j, none⟩ = w.cell? ⟨b, j, none⟩ := fun j => hb.cell (p := ⟨b, j, none⟩) hl
  exact ⟨b, o, e, (hc _).trans h0, (hc _).trans h1, (hc _).trans h2, (hc _).trans h3, (hc _).trans h4, (hc _).trans h5⟩
theorem ev_cells {H : Type} {enc : TypeId × Value → H} {P : Program} {W : World} {e : TypeId} {f0 f1 f2 f3 f4 f5 : Field} {n : Nat} {cs : List Value} {y : DataW H × List MemPlace}
    (he : P.underlying e = some (.struct #[f0, f1, f2, f3, f4, f5])) (hl : cs.length = 6) (ho : f0.offset = 0 ∧ f1.offset = 1 ∧ f2.offset = 2 ∧ f3.offset = 3 ∧ f4.offset = 4 ∧ f5.offset = 5)
    (hs0 : P.underlying f0.type = some (.int .i64)) (hs1 : P.underlying f1.type = some .string) (hs2 : P.underlying f2.type = some .string) (hs3 : P.underlying f3.type = some .string) (hs4 : P.underlying f4.type = some .string) (hs5 : P.underlying f5.type = some (.int .i64))
    (hc : P.cellsOf f0.type = 1 ∧ P.cellsOf f1.type = 1 ∧ P.cellsOf f2.type = 1 ∧ P.cellsOf f3.type = 1 ∧ P.cellsOf f4.type = 1 ∧ P.cellsOf f5.type = 1)
    (hy : DataW.trod enc P W 0 (fun _ => true) true n e cs = some y) : ∃ x : Ev, cs = evC x ∧ EvIn x := by
  obtain ⟨z0, e0, w0⟩ := field_int he hy 0 f0 rfl hs0 hc.1
  obtain ⟨s1, e1, w1⟩ := field_str he hy 1 f1 rfl hs1 hc.2.1
  obtain ⟨s2, e2, w2⟩ := field_str he hy 2 f2 rfl hs2 hc.2.2.1
  obtain ⟨s3, e3, w3⟩ := field_str he hy 3 f3 rfl hs3 hc.2.2.2.1
  obtain ⟨s4, e4, w4⟩ := field_str he hy 4 f4 rfl hs4 hc.2.2.2.2.1
  obtain ⟨z5, e5, w5⟩ := field_int he hy 5 f5 rfl hs5 hc.2.2.2.2.2
  rw [ho.1] at e0
  rw [ho.2.1] at e1
  rw [ho.2.2.1] at e2
  rw [ho.2.2.2.1] at e3
  rw [ho.2.2.2.2.1] at e4
  rw [ho.2.2.2.2.2] at e5
  obtain ⟨a1, a2⟩ := bounds_i64 w0
  obtain ⟨a3, a4⟩ := bounds_i64 w5
  refine ⟨⟨z0, s1, s2, s3, s4, z5⟩, ?_, a1, a2, a3, a4, w1, w2, w3, w4⟩
  match cs, hl with
  | [v0, v1, v2, v3, v4, v5], _ =>
    simp only [List.getElem?_cons_zero, List.getElem?_cons_succ, Option.some.injEq] at e0 e1 e2 e3 e4 e5
    subst e0 e1 e2 e3 e4 e5
    rfl
theorem open_ev {H : Type} {enc : TypeId × Value → H} {P : Program} {W : World} {b0 : Nat} {e : TypeId} {f0 f1 f2 f3 f4 f5 : Field} {v : Value} {d : DataW H} {p : List MemPlace}
    (he : P.underlying e = some (.struct #[f0, f1, f2, f3, f4, f5])) (hce : P.cellsOf e = 6) (ho : f0.offset = 0 ∧ f1.offset = 1 ∧ f2.offset = 2 ∧ f3.offset = 3 ∧ f4.offset = 4 ∧ f5.offset = 5)
    (hs0 : P.underlying f0.type = some (.int .i64)) (hs1 : P.underlying f1.type = some .string) (hs2 : P.underlying f2.type = some .string) (hs3 : P.underlying f3.type = some .string) (hs4 : P.underlying f4.type = some .string) (hs5 : P.underlying f5.type = some (.int .i64))
    (hc : P.cellsOf f0.type = 1 ∧ P.cellsOf f1.type = 1 ∧ P.cellsOf f2.type = 1 ∧ P.cellsOf f3.type = 1 ∧ P.cellsOf f4.type = 1 ∧ P.cellsOf f5.type = 1)
    (hval : Value.okWide P W .any b0 e v) (hd : DataW.Trod enc P W 0 (fun _ => true) true e v d p) : ∃ x : Ev, v = evV x ∧ EvIn x := by
  obtain ⟨cs, rfl, hsz⟩ := okWide_struct he hval
  obtain ⟨fuel, hf⟩ := hd
  obtain ⟨x, hx, hin⟩ := ev_cells (cs := cs.toList) he (by simp [hsz, hce]) ho hs0 hs1 hs2 hs3 hs4 hs5 hc (by simpa [Value.cells] using hf)
  refine ⟨x, ?_, hin⟩
  have : cs = (evC x).toArray := by rw [← hx]
  rw [this]; rfl
theorem open_evs {H : Type} {enc : TypeId × Value → H} {P : Program} {W : World} {b0 : Nat} {t e : TypeId} {f0 f1 f2 f3 f4 f5 : Field} {v : Value} {d : DataW H} {p : List MemPlace}
    (ht : P.underlying t = some (.slice e)) (he : P.underlying e = some (.struct #[f0, f1, f2, f3, f4, f5])) (hce : P.cellsOf e = 6) (ho : f0.offset = 0 ∧ f1.offset = 1 ∧ f2.offset = 2 ∧ f3.offset = 3 ∧ f4.offset = 4 ∧ f5.offset = 5)
    (hs0 : P.underlying f0.type = some (.int .i64)) (hs1 : P.underlying f1.type = some .string) (hs2 : P.underlying f2.type = some .string) (hs3 : P.underlying f3.type = some .string) (hs4 : P.underlying f4.type = some .string) (hs5 : P.underlying f5.type = some (.int .i64))
    (hc : P.cellsOf f0.type = 1 ∧ P.cellsOf f1.type = 1 ∧ P.cellsOf f2.type = 1 ∧ P.cellsOf f3.type = 1 ∧ P.cellsOf f4.type = 1 ∧ P.cellsOf f5.type = 1)
    (hval : Value.okWide P W .any b0 t v) (hd : DataW.Trod enc P W 0 (fun _ => true) true t v d p) :
    ∃ A l c, v = .slice A (l : List Ev).length c ∧ EvsAt W A l ∧ l.length ≤ c ∧ l.length ≤ 9223372036854775807 ∧ ∀ x ∈ l, EvIn x := by
  obtain ⟨A, len, cap, rfl, hl, hm, hi⟩ := open_at' ht (by omega) hval hd
  have each : ∀ i, i < len → ∃ x : Ev, (∃ b o, A = some ⟨b, o, none⟩ ∧ ∀ j, j < 6 → W.cell? ⟨b, o + i * 6 + j, none⟩ = (evC x)[j]?) ∧ EvIn x := by
    intro i hil
    obtain ⟨b, o, n, y, cs, hA, hcell, hcl, hy⟩ := hi i hil
    rw [hce] at hcell hcl
    obtain ⟨x, rfl, hin⟩ := ev_cells he hcl ho hs0 hs1 hs2 hs3 hs4 hs5 hc hy
    exact ⟨x, ⟨b, o, hA, hcell⟩, hin⟩
  obtain ⟨f, hf⟩ := choose_lt each
  have hlen : ((List.range len).map f).length = len := by simp
  refine ⟨A, (List.range len).map f, cap, by rw [hlen], ?_, by rw [hlen]; exact hl, by rw [hlen]; omega, fun x hx => ?_⟩
  · intro i hi'
    obtain ⟨⟨b, o, hA, h⟩, _⟩ := hf i (by simpa using hi')
    refine ⟨b, o, hA, ?_⟩
    simp only [List.getElem_map, List.getElem_range]
    exact ⟨h 0 (by omega), h 1 (by omega), h 2 (by omega), h 3 (by omega), h 4 (by omega), h 5 (by omega)⟩
  · simp only [List.mem_map, List.mem_range] at hx
    obtain ⟨i, hi', rfl⟩ := hx
    exact (hf i hi').2
end Go.Proofs.YthdpkfddmkijlaaGreatDoor

/- identityref01.Word. -/
namespace Go.Proofs.YthdpkfddmkijlaaGreatDoor
open Go.RowKit

def letterC (c : UInt8) : Bool := decide ((97 ≤ c.toNat ∧ c.toNat ≤ 122) ∨ (65 ≤ c.toNat ∧ c.toNat ≤ 90))
def digitC (c : UInt8) : Bool := decide (48 ≤ c.toNat ∧ c.toNat ≤ 57)
theorem rletter_any (c : UInt8) (w : World) :
    Calls Tryz.prog 79 #[.int .u8 (c.toNat : Int)] w fun e w' => e = .returned (.bool (letterC c)) ∧ w = w' := by
  have hcs : (97 ≤ c.toNat ∧ c.toNat ≤ 122) ∨ (65 ≤ c.toNat ∧ c.toNat ≤ 90) ∨ c.toNat < 65 ∨ (90 < c.toNat ∧ c.toNat < 97) ∨ 122 < c.toNat := by omega
  go_enter Tryz.func79, Tryz.ntmps79
  have HN : Hid (∀ b : Bool, (b = true ↔ ((97 ≤ c.toNat ∧ c.toNat ≤ 122) ∨ (65 ≤ c.toNat ∧ c.toNat ≤ 90))) → b = letterC c) := Lib.hid (fun b h => by rw [Bool.eq_iff_iff, h, letterC, decide_eq_true_iff])
  generalize c.toNat = n at *
  rcases hcs with ⟨h1, h2⟩ | ⟨h1, h2⟩ | h | ⟨h1, h2⟩ | h
  all_goals
    go_wp2
    go_ret
    exact ⟨ret_bool (HN.out _ (by simp; try omega)), rfl⟩
theorem rdigit_any (c : UInt8) (w : World) :
    Calls Tryz.prog 80 #[.int .u8 (c.toNat : Int)] w fun e w' => e = .returned (.bool (digitC c)) ∧ w = w' := by
  have hcs : (48 ≤ c.toNat ∧ c.toNat ≤ 57) ∨ c.toNat < 48 ∨ 57 < c.toNat := by omega
  go_enter Tryz.func80, Tryz.ntmps80
  have HN : Hid (∀ b : Bool, (b = true ↔ (48 ≤ c.toNat ∧ c.toNat ≤ 57)) → b = digitC c) := Lib.hid (fun b h => by rw [Bool.eq_iff_iff, h, digitC, decide_eq_true_iff])
  generalize c.toNat = n at *
  rcases hcs with ⟨h1, h2⟩ | h | h
  all_goals
    go_wp2
    go_ret
    exact ⟨ret_bool (HN.out _ (by simp; try omega)), rfl⟩
set_option maxHeartbeats 4000000 in
set_option maxRecDepth 100000 in
theorem rword_any (s : ByteArray) (w : World) (hs : s.size ≤ 9223372036854775807) :
    Calls Tryz.prog 50 #[.string s] w fun e w' => e = .returned (.bool (wordS s)) ∧ w = w' := by
  go_enter Tryz.func50, Tryz.ntmps50
  go_wp2_with fail
  go_loop [3] (fun j => ∃ k : Nat, k ≤ s.size ∧ j = .int .i64 k ∧ Hid ((s.data.toList.take k).all wordC = true)) (fun i => s.size - (intOf i).toNat)
  case atStart => exact ⟨0, Nat.zero_le _, rfl, Lib.hid (by simp)⟩
  case round =>
    obtain ⟨k, hk, rfl, HA⟩ := hrel
    by_cases hlt : k < s.size
    · have HT : Hid (wordC s[k] = true → (s.data.toList.take (k + 1)).all wordC = true) := Lib.hid (fun h => take_all hlt HA.out h)
      have HF : Hid (wordC s[k] = false → wordS s = false) := Lib.hid (fun h => by rw [wordS, all_bad hlt h, Bool.and_false])
      have HL := Lib.hid (rletter_any s[k] w)
      have HD := Lib.hid (rdigit_any s[k] w)
      have hcs : letterC s[k] = true ∨ (letterC s[k] = false ∧ digitC s[k] = true) ∨ (letterC s[k] = false ∧ digitC s[k] = false ∧ (s[k].toNat = 45 ∨ s[k].toNat = 95 ∨ s[k].toNat = 46 ∨ s[k].toNat = 58)) ∨ (letterC s[k] = false ∧ digitC s[k] = false ∧ s[k].toNat ≠ 45 ∧ s[k].toNat ≠ 95 ∧ s[k].toNat ≠ 46 ∧ s[k].toNat ≠ 58) := by
        by_cases h1 : letterC s[k] = true
        · exact .inl h1
        · have h1' : letterC s[k] = false := by simpa using h1
          by_cases h2 : digitC s[k] = true
          · exact .inr (.inl ⟨h1', h2⟩)
          · have h2' : digitC s[k] = false := by simpa using h2
            by_cases h3 : s[k].toNat = 45 ∨ s[k].toNat = 95 ∨ s[k].toNat = 46 ∨ s[k].toNat = 58
            · exact .inr (.inr (.inl ⟨h1', h2', h3⟩))
            · exact .inr (.inr (.inr ⟨h1', h2', by omega, by omega, by omega, by omega⟩))
      rcases hcs with h1 | ⟨h1, h2⟩ | ⟨h1, h2, h3⟩ | ⟨h1, h2, h3, h4, h5, h6⟩
      · have HS := Lib.hid (HT.out (by rw [letterC, decide_eq_true_iff] at h1; rw [wordC, alnumC, Bool.or_eq_true, decide_eq_true_iff]; omega))
        have H1 := Lib.hid h1
        clear h1
        go_wp2_with fail
        refine (Calls.mono HL.out ?_)
        rintro e wsame ⟨rfl, rfl⟩
        rw [H1.out]
        go_wp2_with fail
        go_round
        case rel => exact ⟨k + 1, hlt, by go_num, HS⟩
        case measure => simp [intOf]; omega
      · have HS := Lib.hid (HT.out (by rw [digitC, decide_eq_true_iff] at h2; rw [wordC, alnumC, Bool.or_eq_true, decide_eq_true_iff]; omega))
        have H1 := Lib.hid h1
        have H2 := Lib.hid h2
        clear h1 h2
        go_wp2_with fail
        refine (Calls.mono HL.out ?_)
        rintro e wsame ⟨rfl, rfl⟩
        rw [H1.out]
        go_wp2_with fail
        refine (Calls.mono HD.out ?_)
        rintro e wsame ⟨rfl, rfl⟩
        rw [H2.out]
        go_wp2_with fail
        go_round
        case rel => exact ⟨k + 1, hlt, by go_num, HS⟩
        case measure => simp [intOf]; omega
      · have HS := Lib.hid (HT.out (by rw [wordC, Bool.or_eq_true, decide_eq_true_iff]; exact .inr h3))
        have H1 := Lib.hid h1
        have H2 := Lib.hid h2
        clear h1 h2
        rcases h3 with h3 | h3 | h3 | h3
        ·
          have b0 : ((s[k].toNat : Int) == 45) = true := by rw [h3]; rfl
          have d0 : ((s[k].toNat : Int) != 45) = false := by rw [h3]; rfl
          have b1 : ((s[k].toNat : Int) == 95) = false := by rw [h3]; rfl
          have d1 : ((s[k].toNat : Int) != 95) = true := by rw [h3]; rfl
          have b2 : ((s[k].toNat : Int) == 46) = false := by rw [h3]; rfl
          have d2 : ((s[k].toNat : Int) != 46) = true := by rw [h3]; rfl
          have b3 : ((s[k].toNat : Int) == 58) = false := by rw [h3]; rfl
          have d3 : ((s[k].toNat : Int) != 58) = true := by rw [h3]; rfl
          clear h3
          go_wp2_with fail
          refine (Calls.mono HL.out ?_)
          rintro e wsame ⟨rfl, rfl⟩
          rw [H1.out]
          go_wp2_with fail
          refine (Calls.mono HD.out ?_)
          rintro e wsame ⟨rfl, rfl⟩
          rw [H2.out]
          go_wp2_with fail
          go_round
          case rel => exact ⟨k + 1, hlt, by go_num, HS⟩
          case measure => simp [intOf]; omega
        ·
          have b0 : ((s[k].toNat : Int) == 45) = false := by rw [h3]; rfl
          have d0 : ((s[k].toNat : Int) != 45) = true := by rw [h3]; rfl
          have b1 : ((s[k].toNat : Int) == 95) = true := by rw [h3]; rfl
          have d1 : ((s[k].toNat : Int) != 95) = false := by rw [h3]; rfl
          have b2 : ((s[k].toNat : Int) == 46) = false := by rw [h3]; rfl
          have d2 : ((s[k].toNat : Int) != 46) = true := by rw [h3]; rfl
          have b3 : ((s[k].toNat : Int) == 58) = false := by rw [h3]; rfl
          have d3 : ((s[k].toNat : Int) != 58) = true := by rw [h3]; rfl
          clear h3
          go_wp2_with fail
          refine (Calls.mono HL.out ?_)
          rintro e wsame ⟨rfl, rfl⟩
          rw [H1.out]
          go_wp2_with fail
          refine (Calls.mono HD.out ?_)
          rintro e wsame ⟨rfl, rfl⟩
          rw [H2.out]
          go_wp2_with fail
          go_round
          case rel => exact ⟨k + 1, hlt, by go_num, HS⟩
          case measure => simp [intOf]; omega
        ·
          have b0 : ((s[k].toNat : Int) == 45) = false := by rw [h3]; rfl
          have d0 : ((s[k].toNat : Int) != 45) = true := by rw [h3]; rfl
          have b1 : ((s[k].toNat : Int) == 95) = false := by rw [h3]; rfl
          have d1 : ((s[k].toNat : Int) != 95) = true := by rw [h3]; rfl
          have b2 : ((s[k].toNat : Int) == 46) = true := by rw [h3]; rfl
          have d2 : ((s[k].toNat : Int) != 46) = false := by rw [h3]; rfl
          have b3 : ((s[k].toNat : Int) == 58) = false := by rw [h3]; rfl
          have d3 : ((s[k].toNat : Int) != 58) = true := by rw [h3]; rfl
          clear h3
          go_wp2_with fail
          refine (Calls.mono HL.out ?_)
          rintro e wsame ⟨rfl, rfl⟩
          rw [H1.out]
          go_wp2_with fail
          refine (Calls.mono HD.out ?_)
          rintro e wsame ⟨rfl, rfl⟩
          rw [H2.out]
          go_wp2_with fail
          go_round
          case rel => exact ⟨k + 1, hlt, by go_num, HS⟩
          case measure => simp [intOf]; omega
        ·
          have b0 : ((s[k].toNat : Int) == 45) = false := by rw [h3]; rfl
          have d0 : ((s[k].toNat : Int) != 45) = true := by rw [h3]; rfl
          have b1 : ((s[k].toNat : Int) == 95) = false := by rw [h3]; rfl
          have d1 : ((s[k].toNat : Int) != 95) = true := by rw [h3]; rfl
          have b2 : ((s[k].toNat : Int) == 46) = false := by rw [h3]; rfl
          have d2 : ((s[k].toNat : Int) != 46) = true := by rw [h3]; rfl
          have b3 : ((s[k].toNat : Int) == 58) = true := by rw [h3]; rfl
          have d3 : ((s[k].toNat : Int) != 58) = false := by rw [h3]; rfl
          clear h3
          go_wp2_with fail
          refine (Calls.mono HL.out ?_)
          rintro e wsame ⟨rfl, rfl⟩
          rw [H1.out]
          go_wp2_with fail
          refine (Calls.mono HD.out ?_)
          rintro e wsame ⟨rfl, rfl⟩
          rw [H2.out]
          go_wp2_with fail
          go_round
          case rel => exact ⟨k + 1, hlt, by go_num, HS⟩
          case measure => simp [intOf]; omega
      · have HS := Lib.hid (HF.out (by
          rw [letterC, decide_eq_false_iff_not] at h1
          rw [digitC, decide_eq_false_iff_not] at h2
          rw [wordC, alnumC, Bool.or_eq_false_iff, decide_eq_false_iff_not, decide_eq_false_iff_not]; omega))
        have H1 := Lib.hid h1
        have H2 := Lib.hid h2
        have b1 : ((s[k].toNat : Int) == 45) = false := by rw [beq_eq_false_iff_ne]; omega
        have b2 : ((s[k].toNat : Int) == 95) = false := by rw [beq_eq_false_iff_ne]; omega
        have b3 : ((s[k].toNat : Int) == 46) = false := by rw [beq_eq_false_iff_ne]; omega
        have b4 : ((s[k].toNat : Int) == 58) = false := by rw [beq_eq_false_iff_ne]; omega
        have d1 : ((s[k].toNat : Int) != 45) = true := by rw [bne_iff_ne]; omega
        have d2 : ((s[k].toNat : Int) != 95) = true := by rw [bne_iff_ne]; omega
        have d3 : ((s[k].toNat : Int) != 46) = true := by rw [bne_iff_ne]; omega
        have d4 : ((s[k].toNat : Int) != 58) = true := by rw [bne_iff_ne]; omega
        clear h1 h2 h3 h4 h5 h6
        go_wp2_with fail
        refine (Calls.mono HL.out ?_)
        rintro e wsame ⟨rfl, rfl⟩
        rw [H1.out]
        go_wp2_with fail
        refine (Calls.mono HD.out ?_)
        rintro e wsame ⟨rfl, rfl⟩
        rw [H2.out]
        go_wp2_with fail
        go_ret
        exact ⟨ret_bool HS.out.symm, rfl⟩
    · have HD := Lib.hid (all_done hlt HA.out)
      by_cases h1 : 1 ≤ s.size
      · have HQ : Hid (decide ((s.size : Int) ≤ 64) = wordS s) := Lib.hid (by rw [wordS, HD.out, Bool.and_true]; exact decide_eq_decide.2 (by omega))
        go_wp2_with fail
        go_ret
        exact ⟨ret_bool HQ.out, rfl⟩
      · have HQ : Hid (false = wordS s) := Lib.hid (by rw [wordS, HD.out, Bool.and_true]; exact (decide_eq_false (by omega)).symm)
        go_wp2_with fail
        go_ret
        exact ⟨ret_bool HQ.out, rfl⟩
end Go.Proofs.YthdpkfddmkijlaaGreatDoor

