/- Joined: CodSplitS, Builder, CodPlain, CodB64, CodR64, CodEscW, CodRef64, CodRefEsc. -/
import Derived.Test.YtpmikpijonccjaaGreatDoorSeg1
import Derived.Test.YtpmikpijonccjaaGreatDoorShelf
import Derived.Laws.OwnMore
import Derived.IntWalk
import Derived.Lib.Builder
import Derived.Lib.AppendStr
import Derived.Lib.UnsafeStr
import Derived.Lib.Walk
import Derived.Laws.Externs
import Derived.WalkKit
import Derived.Outline
import Derived.Laws.BitsAllLaws
import Derived.Deep.QuietTactic
import Derived.BigQuiet
import Derived.Laws.IdiomStrings
import Derived.Lib.BufferRead
import Derived.Deep.AppendLies
import Derived.Deep.RegionLaw
/- strings.Split at a separator of one byte. -/
namespace Go.Proofs.YtpmikpijonccjaaGreatDoor
open Go.RowKit

theorem count_any (s : ByteArray) (c : UInt8) (w : World) :
    Calls Tryz.prog 103 #[.string s, .string ⟨#[c]⟩] w fun e w' => e = .returned (.int .i64 ((cutsS s c).length - 1 : Int)) ∧ w = w' := by
  refine (Tryz.strings_Count_one s c w).mono ?_
  rintro e w' ⟨rfl, rfl⟩
  refine ⟨ret_int ?_, rfl⟩
  rw [cutsS_len]; unfold Lib.countByte; omega
theorem index_one (s : ByteArray) (c : UInt8) (z : Int) (w : World) (h : cutI s c = z) :
    Calls Tryz.prog 104 #[.string s, .string ⟨#[c]⟩] w fun e w' => e = .returned (.int .i64 z) ∧ w = w' := by
  refine (Tryz.strings_Index_one s c w).mono ?_
  rintro e w' ⟨rfl, rfl⟩
  exact ⟨ret_int h, rfl⟩

theorem mid_at {L P R : List ByteArray} {q : ByteArray} {k : Nat} (h : L = P ++ q :: R) (hk : P.length = k) (hl : k < L.length) : L[k] = q := by
  subst h; subst hk; simp

set_option maxHeartbeats 2000000 in
set_option maxRecDepth 100000 in
theorem genSplit_any (s : ByteArray) (c : UInt8) (w : World) (hs : s.size ≤ 1000000000) :
    Calls Tryz.prog 81 #[.string s, .string ⟨#[c]⟩, .int .i64 0, .int .i64 (-1)] w fun e w' => ∃ xs cap, e = .returned (.slice (some ⟨w.heap.size, 0, none⟩) (cutsS s c).length cap) ∧ (cutsS s c).length ≤ cap ∧ w'.ownsRow w.heap.size 9 1 (.slice (some ⟨w.heap.size, 0, none⟩) (cutsS s c).length cap) (cutsS s c).length xs ∧ Done xs (cutsS s c) (cutsS s c).length ∧ Below w.heap.size w w' := by
  obtain ⟨i0, hi, hz0, hz1, hz2⟩ := info_parts Tryz.info_s
  have hle := cutsS_le s c
  have hpos : 1 ≤ (cutsS s c).length := by rw [cutsS_len]; omega
  obtain ⟨N, hN⟩ : ∃ N, (cutsS s c).length = N := ⟨_, rfl⟩
  have HC := count_any s c w
  rw [hN] at HC hle hpos
  have HN := Lib.hid hN
  have hmin : min (N : Int) ((s.size : Int) + 1) = N := by omega
  rw [hN]
  clear hN
  go_enter Tryz.func81, Tryz.ntmps81
  go_wp2_with fail
  refine HC.mono ?_
  rintro e w1 ⟨rfl, rfl⟩
  clear HC
  go_wp2_with (at_make; refine wpList_make_full _ rfl _ _ 22 rfl w.heap.size 9 i0 (.string ByteArray.empty) 1 Tryz.underlying22 hi hz0 hz1 .i64 .i64 _ _ N rfl rfl rfl rfl (by rw [hz2]; omega) (by unfold maxLen; omega) (Nat.le_refl _) ?_; intro w1 hown1 hg1)
  have HB1 := Lib.hid ((Below.refl w.heap.size w).grown hg1 (Nat.le_refl _) (by intro k hk; cases hk))
  clear hg1
  go_wp2_with fail
  go_loopw [0, 10, 11] (fun sv i _ wr => ∃ (t : ByteArray) (k : Nat) (xs : List Value) (P : List ByteArray), k + 1 ≤ N ∧ sv = .string t ∧ i = .int .i64 k ∧ t.size ≤ s.size ∧ Hid (P.length = k ∧ cutsS s c = P ++ cutsS t c) ∧ wr.ownsRow w.heap.size 9 1 (.slice (some ⟨w.heap.size, 0, none⟩) N N) N xs ∧ Below w.heap.size w wr ∧ Hid (Done xs (cutsS s c) k)) (fun _ i _ _ => N - (intOf i).toNat)
  case atStart => exact ⟨s, 0, _, [], hpos, rfl, rfl, Nat.le_refl _, Lib.hid ⟨rfl, rfl⟩, hown1, HB1.out, Lib.hid (Done.zero _ _)⟩
  case round =>
    clear hown1
    obtain ⟨t, k, xs, P, hk, rfl, rfl, hts, HP, hown, hbr, HD⟩ := hrel
    have HX : Hid (xs.length = N) := by show _ = _; have := hown.1; omega
    obtain ⟨u, hu⟩ : ∃ u, xs[k]? = some u := ⟨_, List.getElem?_eq_getElem (by rw [HX.out]; exact hk)⟩
    have hcell := (hown.cellAt k (by omega)).trans hu
    have hfr := hown.frozenAt k
    clear hu
    have HLt : Hid ((cutsS t c).length + k = N) := by
      show _ = _
      have h1 := congrArg List.length HP.out.2
      rw [List.length_append, HP.out.1, HN.out] at h1; omega
    by_cases hlt : k + 1 < N
    · obtain ⟨i, hci⟩ := mem_idx (s := t) (c := c) (by have := HLt.out; omega)
      have HI := Lib.hid hci
      have hil : i < t.size := by have := cutI_lt t c; omega
      have HE := Lib.hid (cutsS_hit hci)
      have HM : Hid (∀ hl : k < (cutsS s c).length, (cutsS s c)[k] = t.extract 0 i) := Lib.hid (fun hl => mid_at (P := P) (R := cutsS (t.extract (i + 1) t.size) c) (by rw [← HE.out]; exact HP.out.2) HP.out.1 hl)
      have hP2 : Hid ((P ++ [t.extract 0 i]).length = k + 1 ∧ cutsS s c = (P ++ [t.extract 0 i]) ++ cutsS (t.extract (i + 1) t.size) c) := Lib.hid ⟨by rw [List.length_append, HP.out.1]; rfl, by rw [HP.out.2, HE.out]; simp⟩
      have hlt' : (k : Int) < (N : Int) - 1 := by omega
      have hw1 : IntKind.i64.wrap ((i : Int) + 1) = (i : Int) + 1 := IntWalk.i64_in _ (by omega)
      clear hci
      go_wp2_with fail
      refine (index_one t c i _ HI.out).mono ?_
      rintro e w2 ⟨rfl, rfl⟩
      go_wp2_with fail
      have HS := hown.stored k (.string (t.extract 0 i))
      have HDn : Hid (Done (xs.set k (.string (t.extract 0 i))) (cutsS s c) (k + 1)) := Lib.hid (HD.out.set (by rw [HX.out]; exact hk) (fun hl => by rw [HM.out hl]))
      have hsz : (t.extract (i + 1) t.size).size ≤ s.size := by simp [ByteArray.size_extract]; omega
      go_roundw
      case rel => exact ⟨_, k + 1, _, _, hlt, rfl, by go_num, hsz, hP2, HS.1, hbr.setCell (p := ⟨w.heap.size, k, none⟩) (Nat.le_refl _) _, HDn⟩
      case measure => simp [intOf]; omega
    · have hlt' : ¬ (k : Int) < (N : Int) - 1 := by omega
      have hkN : k + 1 = N := by omega
      have HM1 := Lib.hid (cutsS_miss (s := t) (c := c) (by have := HLt.out; omega))
      have HM : Hid (∀ hl : k < (cutsS s c).length, (cutsS s c)[k] = t) := Lib.hid (fun hl => mid_at (P := P) (R := []) (by rw [← HM1.out]; exact HP.out.2) HP.out.1 hl)
      go_wp2_with fail
      have HS := hown.stored k (.string t)
      have HDn : Done (xs.set k (.string t)) (cutsS s c) N := by
        rw [← hkN]
        exact HD.out.set (by rw [HX.out]; exact hk) (fun hl => by rw [HM.out hl])
      go_ret
      exact ⟨_, N, rfl, Nat.le_refl _, HS.1, HDn, hbr.setCell (p := ⟨w.heap.size, k, none⟩) (Nat.le_refl _) _⟩
/-- strings.Split. -/
theorem ssplit_any (s : ByteArray) (c : UInt8) (w : World) (hs : s.size ≤ 1000000000) :
    Calls Tryz.prog 45 #[.string s, .string ⟨#[c]⟩] w fun e w' => ∃ xs cap, e = .returned (.slice (some ⟨w.heap.size, 0, none⟩) (cutsS s c).length cap) ∧ (cutsS s c).length ≤ cap ∧ w'.ownsRow w.heap.size 9 1 (.slice (some ⟨w.heap.size, 0, none⟩) (cutsS s c).length cap) (cutsS s c).length xs ∧ Done xs (cutsS s c) (cutsS s c).length ∧ Below w.heap.size w w' := by
  go_enter Tryz.func45, Tryz.ntmps45
  go_wp2_with fail
  refine (genSplit_any s c w hs).mono ?_
  rintro e w1 ⟨xs, cap, rfl, h1, h2, h3, h4⟩
  go_wp2_with fail
  go_ret
  exact ⟨xs, cap, rfl, h1, h2, h3, h4⟩
end Go.Proofs.YtpmikpijonccjaaGreatDoor

/- strings.Builder: copyCheck, WriteByte, WriteString at a builder that the call itself has made (the shelf's contracts do not lie over this translation, whose copyCheck ends in a refused statement). -/
namespace Go.Proofs.YtpmikpijonccjaaGreatDoor
open Go.RowKit

theorem info_bld : (Tryz.prog.info? 89).map (fun i => i.size) = some 2 := by kernel_rfl
theorem info_byte : (Tryz.prog.info? 5).map (fun i => (i.zero, i.size, i.bytes)) = some (some (.int .u8 0), 1, 1) := by kernel_rfl
theorem lies_bld : liesAt Tryz.prog Tryz.prog.depth 89 (2 / Tryz.prog.cellsOf 89) 0 89 1 = true := by kernel_rfl

/-- A builder of the call's own. -/
def Bld (B b : Nat) (l : List UInt8) (w : World) : Prop := Lib.IsBuilder 89 5 B b (Lib.byteCells l) w
theorem Bld.fresh (w : World) : Bld w.heap.size w.heap.size [] (w.alloc (.cells #[.pointer none, .slice none 0 0] 89)) := Lib.fresh_isBuilder 89 5 w

set_option maxHeartbeats 1000000 in
set_option maxRecDepth 100000 in
theorem copyCheck_used (b : Nat) (w : World) (h0 : w.cell? ⟨b, 0, none⟩ = some (.pointer (some ⟨b, 0, none⟩))) :
    Calls Tryz.prog 97 #[.pointer (some ⟨b, 0, none⟩)] w fun e w' => e = .returned (.tuple #[]) ∧ w' = w := by
  obtain ⟨j, hj, _⟩ := Option.map_eq_some_iff.1 info_bld
  go_enter Tryz.func97, Tryz.ntmps97
  go_wp2
  rw [Lib.run_neq_ptr_same w _ Tryz.underlying86 hj]
  go_wp2
  go_end0
  exact ⟨rfl, rfl⟩

set_option maxHeartbeats 1000000 in
set_option maxRecDepth 100000 in
theorem copyCheck_fresh (b : Nat) (w : World) (h0 : w.cell? ⟨b, 0, none⟩ = some (.pointer none)) (hsh : w.shape? b = some (89, 2)) (hfz : w.frozen? ⟨b, 0, none⟩ = false) :
    Calls Tryz.prog 97 #[.pointer (some ⟨b, 0, none⟩)] w fun e w' => e = .returned (.tuple #[]) ∧ w' = w.setCell ⟨b, 0, none⟩ (.pointer (some ⟨b, 0, none⟩)) := by
  obtain ⟨j, hj, hjs⟩ := Option.map_eq_some_iff.1 info_bld
  go_enter Tryz.func97, Tryz.ntmps97
  go_wp2
  rw [Lib.run_to_unsafe w ⟨b, 0, none⟩ Tryz.underlying86 Tryz.underlying119 hj (by rw [hjs]; decide) hsh (Nat.zero_lt_succ 1)]
  simp only [Result.andThen]
  rw [Oper.upon_value]
  go_wp2
  rw [run_callFunc_extern Tryz.func117 (by kernel_rfl) (by kernel_rfl) (by kernel_rfl) (e := Extern.AbiNoEscape.same) (by kernel_rfl)]
  rw [Lib.run_noEscape]
  simp only [Result.andThen]
  rw [Oper.upon_value]
  go_wp2
  rw [Lib.run_from_unsafe w ⟨b, 0, none⟩ Tryz.underlying119 Tryz.underlying86 hj hsh lies_bld]
  simp only [Result.andThen]
  rw [Oper.upon_value]
  go_wp2
  go_end0
  exact ⟨rfl, rfl⟩

theorem copyCheck_any (B b : Nat) (bs : List Value) (w : World) (h : Lib.IsBuilder 89 5 B b bs w) :
    Calls Tryz.prog 97 #[.pointer (some ⟨b, 0, none⟩)] w fun e w' => e = .returned (.tuple #[]) ∧ (Lib.BuilderAt 89 5 B b (.pointer (some ⟨b, 0, none⟩)) bs w' ∧ Below B w w') := by
  rcases h with h | h
  · refine (copyCheck_fresh b w h.cell0 h.shape h.frozen0).mono ?_
    rintro e w' ⟨rfl, rfl⟩
    exact ⟨rfl, h.used _, (Below.refl B w).setCell (p := ⟨b, 0, none⟩) h.1 _⟩
  · refine (copyCheck_used b w h.cell0).mono ?_
    rintro e w' ⟨rfl, rfl⟩
    exact ⟨rfl, h, Below.refl B _⟩

set_option maxHeartbeats 2000000 in
set_option maxRecDepth 100000 in
theorem writeByte_val (B b : Nat) (bs : List Value) (c : Int) (w : World) (h : Lib.IsBuilder 89 5 B b bs w) (hlen : bs.length + 1 ≤ 140737488355328) (hBw : B ≤ w.heap.size) :
    Calls Tryz.prog 84 #[.pointer (some ⟨b, 0, none⟩), .int .u8 c] w fun e w' => e = .returned .nilIface ∧ (Lib.BuilderAt 89 5 B b (.pointer (some ⟨b, 0, none⟩)) (bs ++ [.int .u8 c]) w' ∧ Below B w w') := by
  obtain ⟨i0, hi, hz0, hz1, hz2⟩ := info_parts info_byte
  go_enter Tryz.func84, Tryz.ntmps84
  go_wp2_with (go_at_call 97; refine (copyCheck_any B b bs _ h).mono ?_)
  rintro e w1 ⟨rfl, h1, hb1⟩
  obtain ⟨hB, v, hbk, hown, hne⟩ := h1
  have c0 : w1.cell? ⟨b, 0, none⟩ = some (.pointer (some ⟨b, 0, none⟩)) := by rw [Lib.cell_of_heap hbk]; rfl
  have c1 : w1.cell? ⟨b, 1, none⟩ = some v := by rw [Lib.cell_of_heap hbk]; rfl
  go_wp2_with (at_builtin; refine wpList_append_own _ rfl _ _ 87 rfl B 5 i0 (.int .u8 0) 1 1 Tryz.underlying87 hi hz0 hz1 hz2 rfl (by decide) _ _ _ rfl (hown.alloc _) ⟨w1.heap.size, 0, none⟩ 1 1 [.int .u8 c] rfl rfl ?c1 ?c2 ?c3 ?c4 ?c5 ?_)
  case c1 =>
    intro j u hj
    match j, hj with
    | 0, hj => simp at hj; subst hj; simp [Addr.add]
  case c2 => intro u hu; simp at hu; subst hu; rfl
  case c3 => unfold maxLen; omega
  case c4 => omega
  case c5 => have := hb1.size; simp; omega
  intro v' w2 hown' hgrow _
  have hlt : b < w1.heap.size := by
    rcases Nat.lt_or_ge b w1.heap.size with h' | h'
    · exact h'
    · simp [Array.getElem?_eq_none h'] at hbk
  have hb2 : w2.heap[b]? = some (.cells #[.pointer (some ⟨b, 0, none⟩), v] 89 (0, 0)) := by
    rw [hgrow.block b (by simp; omega) (fun e => hne e.symm), Lib.alloc_old w1 _ b hlt]
    exact hbk
  have d0 : w2.cell? ⟨b, 0, none⟩ = some (.pointer (some ⟨b, 0, none⟩)) := by rw [Lib.cell_of_heap hb2]; rfl
  have d1 : w2.cell? ⟨b, 1, none⟩ = some v := by rw [Lib.cell_of_heap hb2]; rfl
  have f1 : w2.frozen? ⟨b, 1, none⟩ = false := Lib.frozen_of_heap hb2 1
  obtain ⟨g, cap, rfl⟩ : ∃ g cap, v' = .slice (some ⟨g, 0, none⟩) (bs.length + 1) cap := by
    rcases hown'.2 with ⟨_, h0⟩ | ⟨g, cap, cur, hv, _⟩
    · omega
    · exact ⟨g, cap, hv⟩
  go_wp2
  go_ret
  refine ⟨rfl, ?_, ?_⟩
  · exact Lib.BuilderAt.put (T := 89) (e := 5) hB hb2 (bs' := bs ++ [.int .u8 c]) (by simpa using hown') (by decide)
  · exact ((hb1.alloc (by have := hb1.size; omega) _).grown hgrow (by have := hb1.size; simp; omega) (fun k hk => (hown.lt k hk).1)).setCell (p := ⟨b, 1, none⟩) hB _

theorem byteCells_snoc (l : List UInt8) (c : UInt8) : Lib.byteCells l ++ [Value.int .u8 (c.toNat : Int)] = Lib.byteCells (l ++ [c]) := by simp [Lib.byteCells]
/-- WriteByte, in bytes. -/
theorem writeByte_any (B b : Nat) (l : List UInt8) (c : UInt8) (w : World) (h : Bld B b l w) (hlen : l.length + 1 ≤ 140737488355328) (hBw : B ≤ w.heap.size) :
    Calls Tryz.prog 84 #[.pointer (some ⟨b, 0, none⟩), .int .u8 (c.toNat : Int)] w fun e w' => e = .returned .nilIface ∧ (Bld B b (l ++ [c]) w' ∧ Below B w w') := by
  refine (writeByte_val B b (Lib.byteCells l) (c.toNat : Int) w h (by simpa [Lib.byteCells_length] using hlen) hBw).mono ?_
  rintro e w' ⟨he, h1, h2⟩
  exact ⟨he, .inr (by rw [byteCells_snoc] at h1; exact h1), h2⟩

set_option maxHeartbeats 2000000 in
set_option maxRecDepth 100000 in
theorem writeString_val (B b : Nat) (bs : List Value) (s : ByteArray) (w : World) (h : Lib.IsBuilder 89 5 B b bs w) (hlen : bs.length + s.size ≤ 140737488355328) (hBw : B ≤ w.heap.size) :
    Calls Tryz.prog 73 #[.pointer (some ⟨b, 0, none⟩), .string s] w fun e w' => e = .returned (.tuple #[.int .i64 s.size, .nilIface]) ∧ (Lib.BuilderAt 89 5 B b (.pointer (some ⟨b, 0, none⟩)) (bs ++ Lib.strCells s) w' ∧ Below B w w') := by
  obtain ⟨i0, hi, hz0, hz1, hz2⟩ := info_parts info_byte
  go_enter Tryz.func73, Tryz.ntmps73
  go_wp2_with (go_at_call 97; refine (copyCheck_any B b bs _ h).mono ?_)
  rintro e w1 ⟨rfl, h1, hb1⟩
  obtain ⟨hB, v, hbk, hown, hne⟩ := h1
  have c0 : w1.cell? ⟨b, 0, none⟩ = some (.pointer (some ⟨b, 0, none⟩)) := by rw [Lib.cell_of_heap hbk]; rfl
  have c1 : w1.cell? ⟨b, 1, none⟩ = some v := by rw [Lib.cell_of_heap hbk]; rfl
  go_wp2_with (at_builtin; refine Lib.wpList_append_own_string _ rfl _ _ 87 9 rfl B 5 i0 Tryz.underlying87 Tryz.underlying9 hi hz0 hz1 hz2 _ _ _ rfl hown s rfl ?c3 ?c4 ?c5 ?_)
  case c3 => unfold maxLen; omega
  case c4 => omega
  case c5 => have := hb1.size; omega
  intro v' w2 hown' hgrow _
  have hlt : b < w1.heap.size := by
    rcases Nat.lt_or_ge b w1.heap.size with h' | h'
    · exact h'
    · simp [Array.getElem?_eq_none h'] at hbk
  have hb2 : w2.heap[b]? = some (.cells #[.pointer (some ⟨b, 0, none⟩), v] 89 (0, 0)) := by
    rw [hgrow.block b hlt (fun e => hne e.symm)]
    exact hbk
  have d0 : w2.cell? ⟨b, 0, none⟩ = some (.pointer (some ⟨b, 0, none⟩)) := by rw [Lib.cell_of_heap hb2]; rfl
  have d1 : w2.cell? ⟨b, 1, none⟩ = some v := by rw [Lib.cell_of_heap hb2]; rfl
  have f1 : w2.frozen? ⟨b, 1, none⟩ = false := Lib.frozen_of_heap hb2 1
  obtain ⟨ao, n', cap, rfl⟩ : ∃ ao n' cap, v' = .slice ao n' cap := by
    rcases hown'.2 with ⟨hv, _⟩ | ⟨g, cap, cur, hv, _⟩
    · exact ⟨_, _, _, hv⟩
    · exact ⟨_, _, _, hv⟩
  go_wp2
  go_ret2
  refine ⟨rfl, ?_, ?_⟩
  · exact Lib.BuilderAt.put (T := 89) (e := 5) hB hb2 (bs' := bs ++ Lib.strCells s) (by simpa [Lib.strCells_length] using hown') (by decide)
  · exact (hb1.grown hgrow (by have := hb1.size; omega) (fun k hk => (hown.lt k hk).1)).setCell (p := ⟨b, 1, none⟩) hB _
/-- WriteString, in bytes. -/
theorem writeString_any (B b : Nat) (l : List UInt8) (s : ByteArray) (w : World) (h : Bld B b l w) (hlen : l.length + s.size ≤ 140737488355328) (hBw : B ≤ w.heap.size) :
    Calls Tryz.prog 73 #[.pointer (some ⟨b, 0, none⟩), .string s] w fun e w' => e = .returned (.tuple #[.int .i64 s.size, .nilIface]) ∧ (Bld B b (l ++ s.data.toList) w' ∧ Below B w w') := by
  refine (writeString_val B b (Lib.byteCells l) s w h (by simpa [Lib.byteCells_length] using hlen) hBw).mono ?_
  rintro e w' ⟨he, h1, h2⟩
  exact ⟨he, .inr (by have e : Lib.byteCells l ++ Lib.strCells s = Lib.byteCells (l ++ s.data.toList) := by simp [Lib.byteCells, Lib.strCells]
                      rw [e] at h1; exact h1), h2⟩
/-- String. -/
theorem bldString_any (B b : Nat) (l : List UInt8) (w : World) (h : Bld B b l w) (hBw : B ≤ w.heap.size) :
    Calls Tryz.prog 77 #[.pointer (some ⟨b, 0, none⟩)] w fun e w' => e = .returned (.string ⟨l.toArray⟩) ∧ Below B w w' :=
  Tryz.Builder_String_any B b l w h hBw
end Go.Proofs.YtpmikpijonccjaaGreatDoor

/- Plain functions for the layer codec: base64 forms, on lists of bytes. No program in sight. -/
namespace Go.Proofs.YtpmikpijonccjaaGreatDoor
open Go.RowKit

/-- The letter with a value below 64. -/
def b64Dig (d : Nat) : UInt8 := if d < 26 then UInt8.ofNat (65 + d) else if d < 52 then UInt8.ofNat (71 + d) else if d < 62 then UInt8.ofNat (d - 4) else if d = 62 then 45 else 95
/-- The value of a letter. -/
def b64Val (c : UInt8) : Option Nat := if 65 ≤ c.toNat ∧ c.toNat ≤ 90 then some (c.toNat - 65) else if 97 ≤ c.toNat ∧ c.toNat ≤ 122 then some (c.toNat - 71) else if 48 ≤ c.toNat ∧ c.toNat ≤ 57 then some (c.toNat + 4) else if c.toNat = 45 then some 62 else if c.toNat = 95 then some 63 else none
theorem b64Val_dig (d : Nat) (h : d < 64) : b64Val (b64Dig d) = some d := by
  have : ∀ d : Fin 64, b64Val (b64Dig d.1) = some d.1 := by decide +kernel
  exact this ⟨d, h⟩
theorem b64Dig_val {c : UInt8} {d : Nat} (h : b64Val c = some d) : b64Dig d = c ∧ d < 64 := by
  have : ∀ n : Fin 256, ∀ d, b64Val (UInt8.ofNat n.1) = some d → b64Dig d = UInt8.ofNat n.1 ∧ d < 64 := by
    intro n d hd
    have : ∀ n : Fin 256, (match b64Val (UInt8.ofNat n.1) with | none => true | some d => decide (b64Dig d = UInt8.ofNat n.1 ∧ d < 64)) = true := by decide +kernel
    have := this n
    rw [hd] at this
    simpa using this
  have h2 := this ⟨c.toNat, c.toNat_lt⟩ d
  simp at h2
  exact h2 h

/-- The form of what is left where n bits are held, of value x (n is 0, 2 or 4). -/
def b64E : List UInt8 → Nat → Nat → List UInt8
  | [], 0, _ => []
  | [], 2, x => [b64Dig (x * 16)]
  | [], _, x => [b64Dig (x * 4)]
  | c :: r, 0, _ => b64Dig (c.toNat / 4) :: b64E r 2 (c.toNat % 4)
  | c :: r, 2, x => b64Dig (x * 16 + c.toNat / 16) :: b64E r 4 (c.toNat % 16)
  | c :: r, _, x => b64Dig (x * 4 + c.toNat / 64) :: b64Dig (c.toNat % 64) :: b64E r 0 0
def b64L (l : List UInt8) : List UInt8 := b64E l 0 0
/-- The bytes of what is left of a form where n bits are held, of value x (n is 0, 2, 4 or 6); none where it is none. -/
def b64D : List UInt8 → Nat → Nat → Option (List UInt8)
  | [], n, x => if n < 6 ∧ x = 0 then some [] else none
  | c :: r, 0, x => (b64Val c).bind fun v => b64D r 6 (x * 64 + v)
  | c :: r, 2, x => (b64Val c).bind fun v => (b64D r 0 0).map fun t => UInt8.ofNat (x * 64 + v) :: t
  | c :: r, 4, x => (b64Val c).bind fun v => (b64D r 2 (v % 4)).map fun t => UInt8.ofNat (x * 16 + v / 4) :: t
  | c :: r, _, x => (b64Val c).bind fun v => (b64D r 4 (v % 16)).map fun t => UInt8.ofNat (x * 4 + v / 16) :: t
theorem b64_back3 (l : List UInt8) : b64D (b64E l 0 0) 0 0 = some l ∧ (∀ y x, y < 64 → x < 4 → b64D (b64E l 2 x) 6 y = some (UInt8.ofNat (y * 4 + x) :: l)) ∧ (∀ y x, y < 16 → x < 16 → b64D (b64E l 4 x) 4 y = some (UInt8.ofNat (y * 16 + x) :: l)) := by
  induction l with
  | nil =>
    refine ⟨by simp [b64E, b64D], fun y x hy hx => ?_, fun y x hy hx => ?_⟩
    · rw [b64E, b64D, b64Val_dig _ (by omega)]
      simp only [Option.bind_some]
      rw [show x * 16 % 16 = 0 by omega, show x * 16 / 16 = x by omega]
      simp [b64D]
      all_goals omega
    · rw [b64E, b64D, b64Val_dig _ (by omega)]
      simp only [Option.bind_some]
      rw [show x * 4 % 4 = 0 by omega, show x * 4 / 4 = x by omega]
      simp [b64D]
      all_goals omega
  | cons c r ih =>
    obtain ⟨h0, h2, h4⟩ := ih
    have hc := c.toNat_lt
    have e : UInt8.ofNat c.toNat = c := by simp
    refine ⟨?_, fun y x hy hx => ?_, fun y x hy hx => ?_⟩
    · rw [b64E, b64D, b64Val_dig _ (by omega)]
      simp only [Option.bind_some]
      rw [h2 _ _ (by omega) (by omega), show (0 * 64 + c.toNat / 4) * 4 + c.toNat % 4 = c.toNat by omega, e]
    · rw [b64E, b64D, b64Val_dig _ (by omega)]
      simp only [Option.bind_some]
      rw [show (x * 16 + c.toNat / 16) % 16 = c.toNat / 16 by omega, show (x * 16 + c.toNat / 16) / 16 = x by omega, h4 _ _ (by omega) (by omega), show c.toNat / 16 * 16 + c.toNat % 16 = c.toNat by omega, e]
      rfl
      all_goals omega
    · rw [b64E, b64D, b64Val_dig _ (by omega)]
      simp only [Option.bind_some]
      rw [show (x * 4 + c.toNat / 64) % 4 = c.toNat / 64 by omega, show (x * 4 + c.toNat / 64) / 4 = x by omega, b64D, b64Val_dig _ (by omega)]
      simp only [Option.bind_some]
      rw [show c.toNat / 64 * 64 + c.toNat % 64 = c.toNat by omega, e, h0]
      rfl
      all_goals omega
theorem b64_back (l : List UInt8) : b64D (b64L l) 0 0 = some l := (b64_back3 l).1
/-- What is read from a form has this form. -/
theorem b64_forth4 (t : List UInt8) : ∀ v, (b64D t 0 0 = some v → b64E v 0 0 = t) ∧ (∀ y, y < 64 → b64D t 6 y = some v → b64E v 0 0 = b64Dig y :: t) ∧ (∀ y x, y < 16 → x < 4 → b64D t 4 y = some v → b64E v 2 x = b64Dig (x * 16 + y) :: t) ∧ (∀ y x, y < 4 → x < 16 → b64D t 2 y = some v → b64E v 4 x = b64Dig (x * 4 + y) :: t) := by
  induction t with
  | nil =>
    intro v
    refine ⟨fun h => ?_, fun y hy h => ?_, fun y x hy hx h => ?_, fun y x hy hx h => ?_⟩
    · simp [b64D] at h; subst h; rfl
    · simp [b64D] at h
    · simp [b64D] at h; obtain ⟨rfl, rfl⟩ := h; simp [b64E]
    · simp [b64D] at h; obtain ⟨rfl, rfl⟩ := h; simp [b64E]
  | cons c r ih =>
    intro v
    refine ⟨fun h => ?_, fun y hy h => ?_, fun y x hy hx h => ?_, fun y x hy hx h => ?_⟩
    · rw [b64D] at h
      cases hc : b64Val c with
      | none => rw [hc] at h; cases h
      | some d =>
        rw [hc] at h
        simp only [Option.bind_some] at h
        obtain ⟨e, hd⟩ := b64Dig_val hc
        rw [show 0 * 64 + d = d by omega] at h
        rw [(ih v).2.1 d hd h, e]
    · rw [b64D] at h
      cases hc : b64Val c with
      | none => rw [hc] at h; cases h
      | some d =>
        rw [hc] at h
        simp only [Option.bind_some, Option.map_eq_some_iff] at h
        obtain ⟨e, hd⟩ := b64Dig_val hc
        obtain ⟨t, h1, rfl⟩ := h
        have eb : (UInt8.ofNat (y * 4 + d / 16)).toNat = y * 4 + d / 16 := by simp; omega
        rw [b64E, eb, (ih t).2.2.1 (d % 16) ((y * 4 + d / 16) % 4) (by omega) (by omega) h1, show (y * 4 + d / 16) / 4 = y by omega, show (y * 4 + d / 16) % 4 * 16 + d % 16 = d by omega, e]
      all_goals omega
    · rw [b64D] at h
      cases hc : b64Val c with
      | none => rw [hc] at h; cases h
      | some d =>
        rw [hc] at h
        simp only [Option.bind_some, Option.map_eq_some_iff] at h
        obtain ⟨e, hd⟩ := b64Dig_val hc
        obtain ⟨t, h1, rfl⟩ := h
        have eb : (UInt8.ofNat (y * 16 + d / 4)).toNat = y * 16 + d / 4 := by simp; omega
        rw [b64E, eb, (ih t).2.2.2 (d % 4) ((y * 16 + d / 4) % 16) (by omega) (by omega) h1, show (y * 16 + d / 4) / 16 = y by omega, show (y * 16 + d / 4) % 16 * 4 + d % 4 = d by omega, e]
    · rw [b64D] at h
      cases hc : b64Val c with
      | none => rw [hc] at h; cases h
      | some d =>
        rw [hc] at h
        simp only [Option.bind_some, Option.map_eq_some_iff] at h
        obtain ⟨e, hd⟩ := b64Dig_val hc
        obtain ⟨t, h1, rfl⟩ := h
        have eb : (UInt8.ofNat (y * 64 + d)).toNat = y * 64 + d := by simp; omega
        rw [b64E, eb, (ih t).1 h1, show (y * 64 + d) / 64 = y by omega, show (y * 64 + d) % 64 = d by omega, e]
        all_goals omega
theorem b64_forth (t v : List UInt8) (h : b64D t 0 0 = some v) : b64L v = t := (b64_forth4 t v).1 h
/-- The length of a form. -/
theorem b64E_length3 (l : List UInt8) : (∀ x, (b64E l 0 x).length = (4 * l.length + 2) / 3) ∧ (∀ x, (b64E l 2 x).length = (4 * l.length + 3) / 3) ∧ (∀ x, (b64E l 4 x).length = (4 * l.length + 4) / 3) := by
  induction l with
  | nil => simp [b64E]
  | cons c r ih =>
    obtain ⟨h0, h2, h4⟩ := ih
    refine ⟨fun x => ?_, fun x => ?_, fun x => ?_⟩
    · rw [b64E, List.length_cons, h2, List.length_cons]; omega
    · rw [b64E, List.length_cons, h4, List.length_cons]; omega
    · rw [b64E, List.length_cons, List.length_cons, h0, List.length_cons]; omega
      all_goals omega
theorem b64L_length (l : List UInt8) : (b64L l).length = (4 * l.length + 2) / 3 := (b64E_length3 l).1 0
/-- The base64 form of a string. -/
def b64S (s : ByteArray) : ByteArray := ⟨(b64L s.data.toList).toArray⟩
/-- The string with a base64 form. -/
def readB64O (s : ByteArray) : Option ByteArray := (b64D s.data.toList 0 0).map fun l => ⟨l.toArray⟩
theorem readB64_b64 (s : ByteArray) : readB64O (b64S s) = some s := by
  simp [readB64O, b64S, b64_back]
theorem b64_readB64 {t s : ByteArray} (h : readB64O t = some s) : b64S s = t := by
  simp only [readB64O, Option.map_eq_some_iff] at h
  obtain ⟨l, h, rfl⟩ := h
  have := b64_forth _ _ h
  apply ByteArray.ext
  simp [b64S, this]
theorem b64S_inj {s t : ByteArray} (h : b64S s = b64S t) : s = t := by
  have := readB64_b64 s
  rw [h, readB64_b64] at this
  exact (Option.some.inj this).symm
theorem b64S_size (s : ByteArray) : (b64S s).size = (4 * s.size + 2) / 3 := by
  show (b64L s.data.toList).toArray.size = _
  simp [b64L_length]
def readB64S (s : ByteArray) : ByteArray := (readB64O s).getD ByteArray.empty
def readB64Err (s : ByteArray) : Int := if (readB64O s).isSome then 0 else 4
end Go.Proofs.YtpmikpijonccjaaGreatDoor

/- codec.Base64 computes b64S; codec.ReadBase64 reads it. -/
namespace Go.Proofs.YtpmikpijonccjaaGreatDoor
open Go.RowKit

theorem wraps_i64 (n : Int) (h0 : 0 ≤ n) (h1 : n < 2 ^ 62) : IntKind.i64.wrap n = n := by rw [IntKind.wrap_i64]; omega
theorem i64_and63 (x : Int) (h0 : 0 ≤ x) (h1 : x < 1000000000000) : bits .and .i64 x 63 = x % 64 := bits_mask .i64 62 (by decide) wraps_i64 6 (by decide) x h0 (by omega)
theorem i64_and3 (x : Int) (h0 : 0 ≤ x) (h1 : x < 1000000000000) : bits .and .i64 x 3 = x % 4 := bits_mask .i64 62 (by decide) wraps_i64 2 (by decide) x h0 (by omega)
theorem i64_and15 (x : Int) (h0 : 0 ≤ x) (h1 : x < 1000000000000) : bits .and .i64 x 15 = x % 16 := bits_mask .i64 62 (by decide) wraps_i64 4 (by decide) x h0 (by omega)
theorem i64_and0 (x : Int) (h0 : 0 ≤ x) (h1 : x < 1000000000000) : bits .and .i64 x 0 = 0 := by
  have := bits_mask .i64 62 (by decide) wraps_i64 0 (by decide) x h0 (by omega)
  simpa using this
theorem wrap_small (c : Nat) (h : c < 1000000000000) : wrap64 (c : Int) = c := by unfold wrap64; omega
theorem or_byte (x : Int) (c : Nat) (h0 : 0 ≤ x) (hx : x < 1000000) (hc : c < 256) : bits .or .i64 (x * 256) (c : Int) = x * 256 + c := by
  exact bits_join .i64 62 (by decide) wraps_i64 8 (x * 256) (c : Int) (by omega) (by omega) (by omega) (by omega) (by omega) (by omega)
theorem or_six (x c : Int) (h0 : 0 ≤ x) (hx : x < 1000000) (hc0 : 0 ≤ c) (hc : c < 64) : bits .or .i64 (x * 64) c = x * 64 + c :=
  bits_join .i64 62 (by decide) wraps_i64 6 (x * 64) c (by omega) (by omega) (by omega) (by omega) (by omega) (by omega)
/-- The letters. -/
def b64Tab : ByteArray := ⟨#[65, 66, 67, 68, 69, 70, 71, 72, 73, 74, 75, 76, 77, 78, 79, 80, 81, 82, 83, 84, 85, 86, 87, 88, 89, 90, 97, 98, 99, 100, 101, 102, 103, 104, 105, 106, 107, 108, 109, 110, 111, 112, 113, 114, 115, 116, 117, 118, 119, 120, 121, 122, 48, 49, 50, 51, 52, 53, 54, 55, 56, 57, 45, 95]⟩
theorem b64Tab_at (d : Nat) (h : d < 64) : b64Tab.data.toList[d]? = some (b64Dig d) := by
  have : ∀ d : Fin 64, b64Tab.data.toList[d.1]? = some (b64Dig d.1) := by decide +kernel
  exact this ⟨d, h⟩

theorem b64Tab_el (d : Nat) (h : d < 64) (h' : d < b64Tab.size) : b64Tab[d] = b64Dig d := by
  have := b64Tab_at d h
  rw [List.getElem?_eq_getElem (by simpa using h')] at this
  exact Option.some.inj this
theorem drop_cons (s : ByteArray) (k : Nat) (h : k < s.size) : s.data.toList.drop k = s[k] :: s.data.toList.drop (k + 1) :=
  List.drop_eq_getElem_cons (by simpa using h)
theorem b64_step0 {s : ByteArray} {k c d y : Nat} {pre L : List UInt8} (hk : k < s.size) (hc : s[k].toNat = c) (hd : c / 4 = d) (hy : c % 4 = y) (HP : pre ++ b64E (s.data.toList.drop k) 0 0 = L) :
    (pre ++ [b64Dig d]) ++ b64E (s.data.toList.drop (k + 1)) 2 y = L := by
  rw [drop_cons s k hk, b64E, hc, hd, hy] at HP
  rw [← HP]; simp
theorem b64_step2 {s : ByteArray} {k c d y x : Nat} {pre L : List UInt8} (hk : k < s.size) (hc : s[k].toNat = c) (hd : x * 16 + c / 16 = d) (hy : c % 16 = y) (HP : pre ++ b64E (s.data.toList.drop k) 2 x = L) :
    (pre ++ [b64Dig d]) ++ b64E (s.data.toList.drop (k + 1)) 4 y = L := by
  rw [drop_cons s k hk, b64E, hc, hd, hy] at HP
  rw [← HP]; simp
theorem b64_step4 {s : ByteArray} {k c d y x : Nat} {pre L : List UInt8} (hk : k < s.size) (hc : s[k].toNat = c) (hd : x * 4 + c / 64 = d) (hy : c % 64 = y) (HP : pre ++ b64E (s.data.toList.drop k) 4 x = L) :
    (pre ++ [b64Dig d] ++ [b64Dig y]) ++ b64E (s.data.toList.drop (k + 1)) 0 0 = L := by
  rw [drop_cons s k hk, b64E, hc, hd, hy] at HP
  · rw [← HP]; simp
  all_goals omega
theorem b64_end0 {s : ByteArray} {k : Nat} {pre : List UInt8} (hk : ¬ k < s.size) (HP : pre ++ b64E (s.data.toList.drop k) 0 0 = b64L s.data.toList) : (⟨pre.toArray⟩ : ByteArray) = b64S s := by
  rw [List.drop_of_length_le (by simp; have : s.size = s.data.size := rfl; omega), b64E, List.append_nil] at HP
  rw [b64S, ← HP]
theorem b64_end2 {s : ByteArray} {k x d : Nat} {pre : List UInt8} (hk : ¬ k < s.size) (hd : x * 16 = d) (HP : pre ++ b64E (s.data.toList.drop k) 2 x = b64L s.data.toList) : (⟨(pre ++ [b64Dig d]).toArray⟩ : ByteArray) = b64S s := by
  rw [List.drop_of_length_le (by simp; have : s.size = s.data.size := rfl; omega), b64E, hd] at HP
  rw [b64S, ← HP]
theorem b64_end4 {s : ByteArray} {k x d : Nat} {pre : List UInt8} (hk : ¬ k < s.size) (hd : x * 4 = d) (HP : pre ++ b64E (s.data.toList.drop k) 4 x = b64L s.data.toList) : (⟨(pre ++ [b64Dig d]).toArray⟩ : ByteArray) = b64S s := by
  rw [List.drop_of_length_le (by simp; have : s.size = s.data.size := rfl; omega), b64E, hd] at HP
  · rw [b64S, ← HP]
  all_goals omega

end Go.Proofs.YtpmikpijonccjaaGreatDoor

/- codec.ReadBase64 reads what b64S writes, and nothing else. -/
namespace Go.Proofs.YtpmikpijonccjaaGreatDoor
open Go.RowKit

theorem b64_index (c : UInt8) : Lib.indexByte b64Tab.data.toList c = match b64Val c with | none => -1 | some v => (v : Int) := by
  have : ∀ n : Fin 256, Lib.indexByte b64Tab.data.toList (UInt8.ofNat n.1) = match b64Val (UInt8.ofNat n.1) with | none => -1 | some d => (d : Int) := by decide +kernel
  have h := this ⟨c.toNat, c.toNat_lt⟩
  simpa using h
/-- strings.IndexByte in the letters. -/
theorem index_letter (c : UInt8) (w : World) :
    Calls Tryz.prog 85 #[.string b64Tab, .int .u8 (c.toNat : Int)] w fun e w' => e = .returned (.int .i64 (match b64Val c with | none => -1 | some v => (v : Int))) ∧ w = w' := by
  refine (Tryz.strings_IndexByte b64Tab (c.toNat : Int) w).mono ?_
  rintro e w' ⟨rfl, rfl⟩
  refine ⟨ret_int ?_, rfl⟩
  rw [← b64_index]
  simp
theorem index_letter_none (c : UInt8) (w : World) (h : b64Val c = none) :
    Calls Tryz.prog 85 #[.string b64Tab, .int .u8 (c.toNat : Int)] w fun e w' => e = .returned (.int .i64 (-1)) ∧ w = w' := by
  have := index_letter c w; rw [h] at this; exact this
theorem index_letter_some (c : UInt8) (v : Nat) (w : World) (h : b64Val c = some v) :
    Calls Tryz.prog 85 #[.string b64Tab, .int .u8 (c.toNat : Int)] w fun e w' => e = .returned (.int .i64 (v : Int)) ∧ w = w' := by
  have := index_letter c w; rw [h] at this; exact this

theorem r64_none {s : ByteArray} {k N x : Nat} {c : UInt8} {pre : List UInt8} {L : Option (List UInt8)} (hk : k < s.size) (hc : s[k] = c) (hv : b64Val c = none) (HP : (b64D (s.data.toList.drop k) N x).map (pre ++ ·) = L) : L = none := by
  rw [drop_cons s k hk, hc] at HP
  rw [← HP]
  unfold b64D
  split <;> simp_all
theorem r64_step0 {s : ByteArray} {k v : Nat} {c : UInt8} {pre : List UInt8} {L : Option (List UInt8)} (hk : k < s.size) (hc : s[k] = c) (hv : b64Val c = some v) (HP : (b64D (s.data.toList.drop k) 0 0).map (pre ++ ·) = L) :
    (b64D (s.data.toList.drop (k + 1)) 6 v).map (pre ++ ·) = L := by
  rw [drop_cons s k hk, hc, b64D, hv] at HP
  simpa using HP
theorem r64_snoc {o : Option (List UInt8)} {pre : List UInt8} {q : UInt8} : (o.map fun t => q :: t).map (pre ++ ·) = o.map ((pre ++ [q]) ++ ·) := by
  cases o <;> simp
theorem r64_step2 {s : ByteArray} {k v x : Nat} {c q : UInt8} {pre : List UInt8} {L : Option (List UInt8)} (hk : k < s.size) (hc : s[k] = c) (hv : b64Val c = some v) (hq : UInt8.ofNat (x * 64 + v) = q) (HP : (b64D (s.data.toList.drop k) 2 x).map (pre ++ ·) = L) :
    (b64D (s.data.toList.drop (k + 1)) 0 0).map ((pre ++ [q]) ++ ·) = L := by
  rw [drop_cons s k hk, hc, b64D, hv, Option.bind_some, hq, r64_snoc] at HP
  exact HP
theorem r64_step4 {s : ByteArray} {k v x y : Nat} {c q : UInt8} {pre : List UInt8} {L : Option (List UInt8)} (hk : k < s.size) (hc : s[k] = c) (hv : b64Val c = some v) (hq : UInt8.ofNat (x * 16 + v / 4) = q) (hy : v % 4 = y) (HP : (b64D (s.data.toList.drop k) 4 x).map (pre ++ ·) = L) :
    (b64D (s.data.toList.drop (k + 1)) 2 y).map ((pre ++ [q]) ++ ·) = L := by
  rw [drop_cons s k hk, hc, b64D, hv, Option.bind_some, hq, hy, r64_snoc] at HP
  exact HP
theorem r64_step6 {s : ByteArray} {k v x y : Nat} {c q : UInt8} {pre : List UInt8} {L : Option (List UInt8)} (hk : k < s.size) (hc : s[k] = c) (hv : b64Val c = some v) (hq : UInt8.ofNat (x * 4 + v / 16) = q) (hy : v % 16 = y) (HP : (b64D (s.data.toList.drop k) 6 x).map (pre ++ ·) = L) :
    (b64D (s.data.toList.drop (k + 1)) 4 y).map ((pre ++ [q]) ++ ·) = L := by
  rw [drop_cons s k hk, hc, b64D, hv, Option.bind_some, hq, hy, r64_snoc] at HP
  · exact HP
  all_goals omega
theorem r64_end {s : ByteArray} {k N x : Nat} {pre : List UInt8} (hk : ¬ k < s.size) (HP : (b64D (s.data.toList.drop k) N x).map (pre ++ ·) = b64D s.data.toList 0 0) :
    readB64O s = if N < 6 ∧ x = 0 then some ⟨pre.toArray⟩ else none := by
  rw [List.drop_of_length_le (by simp; have : s.size = s.data.size := rfl; omega), b64D] at HP
  unfold readB64O
  rw [← HP]
  by_cases h : N < 6 ∧ x = 0 <;> simp [h]
theorem read_bad {s : ByteArray} (h : readB64O s = none) : readB64S s = ⟨#[]⟩ ∧ readB64Err s = 4 := by
  simp [readB64S, readB64Err, h]; rfl
theorem read_good {s t : ByteArray} (h : readB64O s = some t) : readB64S s = t ∧ readB64Err s = 0 := by
  simp [readB64S, readB64Err, h]
theorem ret_se {a b : ByteArray} {x y : Int} (h1 : a = b) (h2 : x = y) : Ending.returned (.tuple #[.string a, .int .i64 x]) = .returned (.tuple #[.string b, .int .i64 y]) := by rw [h1, h2]
theorem b64Val_lt {c : UInt8} {v : Nat} (h : b64Val c = some v) : v < 64 := (b64Dig_val h).2
theorem wrap_u8 (z : Nat) : IntKind.u8.wrap (z : Int) = ((UInt8.ofNat z).toNat : Int) := by
  rw [IntKind.wrap_u8]; simp

end Go.Proofs.YtpmikpijonccjaaGreatDoor

/- codec.Escape and codec.Unescape compute escS, unescS. -/
namespace Go.Proofs.YtpmikpijonccjaaGreatDoor
open Go.RowKit

def sepTab : ByteArray := ⟨#[37, 124, 44, 61, 59, 34]⟩
def hexTab : ByteArray := ⟨#[48, 49, 50, 51, 52, 53, 54, 55, 56, 57, 65, 66, 67, 68, 69, 70]⟩
/-- A separator. -/
def sepB (c : UInt8) : Bool := decide (c.toNat = 37 ∨ c.toNat = 124 ∨ c.toNat = 44 ∨ c.toNat = 61 ∨ c.toNat = 59 ∨ c.toNat = 34)
theorem plainB_eq (c : UInt8) : plainB c = (decide (33 ≤ c.toNat) && (decide (c.toNat ≤ 126) && !sepB c)) := by
  have : ∀ n : Fin 256, plainB (UInt8.ofNat n.1) = (decide (33 ≤ (UInt8.ofNat n.1).toNat) && (decide ((UInt8.ofNat n.1).toNat ≤ 126) && !sepB (UInt8.ofNat n.1))) := by decide +kernel
  have h := this ⟨c.toNat, c.toNat_lt⟩
  simpa using h
theorem sep_index (c : UInt8) : (sepB c = true → 0 ≤ Lib.indexByte sepTab.data.toList c) ∧ (sepB c = false → Lib.indexByte sepTab.data.toList c = -1) := by
  have : ∀ n : Fin 256, (sepB (UInt8.ofNat n.1) = true → 0 ≤ Lib.indexByte sepTab.data.toList (UInt8.ofNat n.1)) ∧ (sepB (UInt8.ofNat n.1) = false → Lib.indexByte sepTab.data.toList (UInt8.ofNat n.1) = -1) := by decide +kernel
  have h := this ⟨c.toNat, c.toNat_lt⟩
  simpa using h
theorem hex_index (c : UInt8) : Lib.indexByte hexTab.data.toList c = match hexV c with | none => -1 | some v => (v : Int) := by
  have : ∀ n : Fin 256, Lib.indexByte hexTab.data.toList (UInt8.ofNat n.1) = match hexV (UInt8.ofNat n.1) with | none => -1 | some d => (d : Int) := by decide +kernel
  have h := this ⟨c.toNat, c.toNat_lt⟩
  simpa using h
theorem hexTab_el (d : Nat) (h : d < 16) (h' : d < hexTab.size) : hexTab[d] = hexU d := by
  have : ∀ d : Fin 16, hexTab.data.toList[d.1]? = some (hexU d.1) := by decide +kernel
  have := this ⟨d, h⟩
  rw [List.getElem?_eq_getElem (by simpa using h')] at this
  exact Option.some.inj this
theorem hex_lit (d : Nat) (h : d < 16) : (⟨#[48, 49, 50, 51, 52, 53, 54, 55, 56, 57, 65, 66, 67, 68, 69, 70]⟩ : ByteArray)[d]'h = hexU d := hexTab_el d h h
theorem hexV_lt {c : UInt8} {v : Nat} (h : hexV c = some v) : v < 16 := (hexU_val h).2
theorem or_four (x c : Int) (h0 : 0 ≤ x) (hx : x < 1000000) (hc0 : 0 ≤ c) (hc : c < 16) : bits .or .i64 (x * 16) c = x * 16 + c :=
  bits_join .i64 62 (by decide) wraps_i64 4 (x * 16) c (by omega) (by omega) (by omega) (by omega) (by omega) (by omega)
/-- strings.IndexByte in the separators. -/
theorem index_sep (c : UInt8) (w : World) :
    Calls Tryz.prog 85 #[.string sepTab, .int .u8 (c.toNat : Int)] w fun e w' => e = .returned (.int .i64 (Lib.indexByte sepTab.data.toList c)) ∧ w = w' := by
  refine (Tryz.strings_IndexByte sepTab (c.toNat : Int) w).mono ?_
  rintro e w' ⟨rfl, rfl⟩
  exact ⟨ret_int (by simp), rfl⟩
theorem index_hex (c : UInt8) (w : World) :
    Calls Tryz.prog 85 #[.string hexTab, .int .u8 (c.toNat : Int)] w fun e w' => e = .returned (.int .i64 (match hexV c with | none => -1 | some v => (v : Int))) ∧ w = w' := by
  refine (Tryz.strings_IndexByte hexTab (c.toNat : Int) w).mono ?_
  rintro e w' ⟨rfl, rfl⟩
  refine ⟨ret_int ?_, rfl⟩
  rw [← hex_index]
  simp
theorem index_hexI (c : UInt8) (w : World) :
    Calls Tryz.prog 85 #[.string hexTab, .int .u8 (c.toNat : Int)] w fun e w' => e = .returned (.int .i64 (Lib.indexByte hexTab.data.toList c)) ∧ w = w' := by
  refine (Tryz.strings_IndexByte hexTab (c.toNat : Int) w).mono ?_
  rintro e w' ⟨rfl, rfl⟩
  exact ⟨ret_int (by simp), rfl⟩
theorem index_hex_at (c : UInt8) (z : Int) (w : World) (h : Lib.indexByte hexTab.data.toList c = z) :
    Calls Tryz.prog 85 #[.string hexTab, .int .u8 (c.toNat : Int)] w fun e w' => e = .returned (.int .i64 z) ∧ w = w' := by
  have := index_hexI c w; rw [h] at this; exact this
theorem index_hex_none (c : UInt8) (w : World) (h : hexV c = none) :
    Calls Tryz.prog 85 #[.string hexTab, .int .u8 (c.toNat : Int)] w fun e w' => e = .returned (.int .i64 (-1)) ∧ w = w' := by
  have := index_hex c w; rw [h] at this; exact this
theorem index_hex_some (c : UInt8) (v : Nat) (w : World) (h : hexV c = some v) :
    Calls Tryz.prog 85 #[.string hexTab, .int .u8 (c.toNat : Int)] w fun e w' => e = .returned (.int .i64 (v : Int)) ∧ w = w' := by
  have := index_hex c w; rw [h] at this; exact this

theorem plain_of {c : UInt8} {b : Bool} (h : b = (decide (33 ≤ c.toNat) && (decide (c.toNat ≤ 126) && !sepB c))) : b = plainB c := by rw [plainB_eq, h]
set_option maxHeartbeats 1000000 in
theorem cplain_any (c : UInt8) (w : World) :
    Calls Tryz.prog 83 #[.int .u8 (c.toNat : Int)] w fun e w' => e = .returned (.bool (plainB c)) ∧ w = w' := by
  have hcs : c.toNat < 33 ∨ 126 < c.toNat ∨ (33 ≤ c.toNat ∧ c.toNat ≤ 126) := by omega
  go_enter Tryz.func83, Tryz.ntmps83
  rcases hcs with h | h | ⟨h1, h2⟩
  · go_wp2_with fail
    go_ret
    exact ⟨ret_bool (plain_of (by simp [Nat.not_le.2 h])), rfl⟩
  · go_wp2_with fail
    go_ret
    exact ⟨ret_bool (plain_of (by simp [Nat.not_le.2 h])), rfl⟩
  · cases hs : sepB c with
    | true =>
      have h0 := (sep_index c).1 hs
      obtain ⟨i, hi⟩ := Int.eq_ofNat_of_zero_le h0
      have HI := Lib.hid hi
      have HS := Lib.hid hs
      clear hi h0 hs
      go_wp2_with fail
      refine (index_sep c w).mono ?_
      rintro e w1 ⟨rfl, rfl⟩
      rw [HI.out]
      go_wp2_with fail
      go_ret
      exact ⟨ret_bool (plain_of (by simp [HS.out])), rfl⟩
    | false =>
      have h0 := (sep_index c).2 hs
      have HI := Lib.hid h0
      have HS := Lib.hid hs
      clear h0 hs
      go_wp2_with fail
      refine (index_sep c w).mono ?_
      rintro e w1 ⟨rfl, rfl⟩
      rw [HI.out]
      go_wp2_with fail
      go_ret
      exact ⟨ret_bool (plain_of (by simp [HS.out, h1, h2])), rfl⟩

theorem esc_step1 {s : ByteArray} {k : Nat} {pre L : List UInt8} (hk : k < s.size) (hp : plainB s[k] = true) (HP : pre ++ escL (s.data.toList.drop k) = L) :
    (pre ++ [s[k]]) ++ escL (s.data.toList.drop (k + 1)) = L := by
  rw [drop_cons s k hk, escL, escC, if_pos hp] at HP
  rw [← HP]; simp
theorem esc_step3 {s : ByteArray} {k c a b : Nat} {pre L : List UInt8} (hk : k < s.size) (hp : plainB s[k] = false) (hc : s[k].toNat = c) (ha : c / 16 = a) (hb : c % 16 = b) (HP : pre ++ escL (s.data.toList.drop k) = L) :
    (pre ++ [37] ++ [hexU a] ++ [hexU b]) ++ escL (s.data.toList.drop (k + 1)) = L := by
  rw [drop_cons s k hk, escL, escC, if_neg (by rw [hp]; decide), hc, ha, hb] at HP
  rw [← HP]; simp
theorem esc_end {s : ByteArray} {k : Nat} {pre : List UInt8} (hk : ¬ k < s.size) (HP : pre ++ escL (s.data.toList.drop k) = escL s.data.toList) : (⟨pre.toArray⟩ : ByteArray) = escS s := by
  rw [List.drop_of_length_le (by simp; have : s.size = s.data.size := rfl; omega), escL, List.append_nil] at HP
  rw [escS, ← HP]

set_option maxHeartbeats 2000000 in
theorem esc_any (s : ByteArray) (w : World) (hs : s.size ≤ 1000000000) :
    Calls Tryz.prog 74 #[.string s] w fun e w' => e = .returned (.string (escS s)) ∧ Below w.heap.size w w' := by
  go_enter Tryz.func74, Tryz.ntmps74
  go_wp2_with fail
  go_loopw [4, 5, 8] (fun _ _ j wr => ∃ (k : Nat) (pre : List UInt8), k ≤ s.size ∧ j = .int .i64 k ∧ Bld w.heap.size w.heap.size pre wr ∧ Hid (pre ++ escL (s.data.toList.drop k) = escL s.data.toList) ∧ pre.length ≤ 3 * k ∧ Below w.heap.size w wr) (fun _ _ i _ => s.size - (intOf i).toNat)
  case atStart => exact ⟨0, [], Nat.zero_le _, rfl, Bld.fresh w, Lib.hid rfl, Nat.zero_le _, (Below.refl _ _).alloc (Nat.le_refl _) _⟩
  case round =>
    obtain ⟨k, pre, hk, rfl, hB, HP, hpl, hbr⟩ := hrel
    by_cases hlt : k < s.size
    · cases hp : plainB s[k] with
      | true =>
        have HQ := Lib.hid hp
        go_wp2_with fail
        refine (cplain_any s[k] wr).mono ?_
        rintro e w1 ⟨rfl, rfl⟩
        rw [hp]
        clear hp
        go_wp2_with fail
        refine (writeByte_any _ _ pre _ _ hB (by omega) hbr.size).mono ?_
        rintro e w1 ⟨rfl, hB1, hb1⟩
        go_wp2_with fail
        go_roundw
        case rel => exact ⟨k + 1, pre ++ [s[k]], by omega, by go_num, hB1, Lib.hid (esc_step1 hlt HQ.out HP.out), by simp; omega, hbr.trans hb1⟩
        case measure => simp [intOf]; omega
      | false =>
        have HQ := Lib.hid hp
        obtain ⟨c, hc⟩ : ∃ c, s[k].toNat = c := ⟨_, rfl⟩
        have HC := Lib.hid hc
        have hcl : c < 256 := hc ▸ s[k].toNat_lt
        obtain ⟨a, HA⟩ : ∃ a, Hid (c / 16 = a) := ⟨_, Lib.hid rfl⟩
        have hal : a < 16 := by have := HA.out; omega
        have ea : (c : Int) / 16 = (a : Int) := by have := HA.out; omega
        obtain ⟨b, HB⟩ : ∃ b, Hid (c % 16 = b) := ⟨_, Lib.hid rfl⟩
        have hbl : b < 16 := by have := HB.out; omega
        have eb : bits BinOp.and IntKind.u8 (c : Int) 15 = (b : Int) := by rw [u8_and15 _ (by omega) (by omega)]; have := HB.out; omega
        have hcp := cplain_any s[k] wr
        rw [hc, hp] at hcp
        clear hp
        go_wp2_with fail
        refine hcp.mono ?_
        rintro e w1 ⟨rfl, rfl⟩
        go_wp2_with fail
        refine (writeByte_any _ _ pre 37 _ hB (by omega) hbr.size).mono ?_
        rintro e w1 ⟨rfl, hB1, hb1⟩
        have hbr1 := hbr.trans hb1
        have eA := hex_lit a hal
        have eB := hex_lit b hbl
        go_wp2_with fail
        refine (writeByte_any _ _ _ _ _ hB1 (by simp; omega) hbr1.size).mono ?_
        rintro e w2 ⟨rfl, hB2, hb2⟩
        have hbr2 := hbr1.trans hb2
        go_wp2_with fail
        refine (writeByte_any _ _ _ _ _ hB2 (by simp; omega) hbr2.size).mono ?_
        rintro e w3 ⟨rfl, hB3, hb3⟩
        go_wp2_with fail
        have hP := esc_step3 hlt HQ.out HC.out HA.out HB.out HP.out
        go_roundw
        case rel => exact ⟨k + 1, _, by omega, by go_num, hB3, Lib.hid hP, by simp; omega, hbr2.trans hb3⟩
        case measure => simp [intOf]; omega
    · go_wp2_with fail
      refine (bldString_any _ _ pre _ hB hbr.size).mono ?_
      rintro e w1 ⟨rfl, hb1⟩
      go_wp2_with fail
      go_ret
      exact ⟨ret_str (esc_end hlt HP.out), hbr.trans hb1⟩

theorem quiet_eq {P : Program} {f : FuncId} {args : Array Value} {w : World} {n : Nat} {v : Value}
    (h : Calls P f args (w.drewN n) fun e w' => e = .returned v ∧ w.drewN n = w') : Calls P f args (w.drewN n) fun e w'' => e = .returned v ∧ ∃ m, w'' = w.drewN m :=
  h.mono fun _ _ ⟨he, hm⟩ => ⟨he, n, hm.symm⟩
theorem Bld.drewN {B b : Nat} {l : List UInt8} {w : World} (h : Bld B b l w) {n : Nat} : Bld B b l (w.drewN n) := h
theorem un_plain {s : ByteArray} {k : Nat} {pre : List UInt8} {L : Option (List UInt8)} (hk : k < s.size) (hp : plainB s[k] = true) (HP : (unE (s.data.toList.drop k) 0).map (pre ++ ·) = L) :
    (unE (s.data.toList.drop (k + 1)) 0).map ((pre ++ [s[k]]) ++ ·) = L := by
  rw [drop_cons s k hk, unE, if_pos hp, r64_snoc] at HP
  exact HP
theorem un_bad {s : ByteArray} {k : Nat} {pre : List UInt8} {L : Option (List UInt8)} (hk : k < s.size) (hp : plainB s[k] = false) (h37 : s[k].toNat ≠ 37) (HP : (unE (s.data.toList.drop k) 0).map (pre ++ ·) = L) : L = none := by
  rw [drop_cons s k hk, unE, if_neg (by rw [hp]; decide), if_neg (by intro e; rw [e] at h37; exact h37 rfl)] at HP
  rw [← HP]; rfl
theorem u37 {c : UInt8} (h : c.toNat = 37) : c = 37 := UInt8.toNat_inj.1 h
theorem un_short {s : ByteArray} {k : Nat} {pre : List UInt8} {L : Option (List UInt8)} (hk : k < s.size) (h37 : s[k].toNat = 37) (hs : ¬ k + 2 < s.size) (HP : (unE (s.data.toList.drop k) 0).map (pre ++ ·) = L) : L = none := by
  rw [drop_cons s k hk, u37 h37, unE, if_neg (by decide), if_pos rfl] at HP
  rw [← HP]
  by_cases h1 : k + 1 < s.size
  · rw [drop_cons s (k + 1) h1, unE, List.drop_of_length_le (by simp; have : s.size = s.data.size := rfl; omega)]
    cases hexV s[k + 1] <;> rfl
  · rw [List.drop_of_length_le (by simp; have : s.size = s.data.size := rfl; omega)]; rfl
theorem un_hex {s : ByteArray} {k : Nat} {pre : List UInt8} {L : Option (List UInt8)} (hs : k + 2 < s.size) (h37 : s[k].toNat = 37) (HP : (unE (s.data.toList.drop k) 0).map (pre ++ ·) = L) :
    (((hexV s[k + 1]).bind fun a => (hexV s[k + 2]).bind fun b => if plainB (UInt8.ofNat (a * 16 + b)) then none else (unE (s.data.toList.drop (k + 3)) 0).map (UInt8.ofNat (a * 16 + b) :: ·)).map (pre ++ ·)) = L := by
  rw [drop_cons s k (by omega), u37 h37, unE, if_neg (by decide), if_pos rfl, drop_cons s (k + 1) (by omega), unE, drop_cons s (k + 2) hs] at HP
  rw [← HP]
  cases hexV s[k + 1] with
  | none => rfl
  | some a => rw [Option.bind_some, Option.bind_some, unE]
theorem un_end {s : ByteArray} {k : Nat} {pre : List UInt8} (hk : ¬ k < s.size) (HP : (unE (s.data.toList.drop k) 0).map (pre ++ ·) = unE s.data.toList 0) : unescO s = some ⟨pre.toArray⟩ := by
  rw [List.drop_of_length_le (by simp; have : s.size = s.data.size := rfl; omega), unE] at HP
  rw [unescO, ← HP]; simp
theorem un_none {s : ByteArray} (h : unE s.data.toList 0 = none) : unescS s = ⟨#[]⟩ ∧ unescE s = 4 := by
  simp [unescS, unescE, unescO, h]; rfl
theorem un_some {s t : ByteArray} (h : unescO s = some t) : unescS s = t ∧ unescE s = 0 := by
  simp [unescS, unescE, h]

set_option maxHeartbeats 4000000 in
theorem unesc_any (s : ByteArray) (w : World) (hs : s.size ≤ 1000000000) :
    Calls Tryz.prog 48 #[.string s] w fun e w' => e = .returned (.tuple #[.string (unescS s), .int .i64 (unescE s)]) ∧ Below w.heap.size w w' := by
  go_enter Tryz.func48, Tryz.ntmps48
  go_wp2_with fail
  go_loopw [5, 6, 7] (fun j _ _ wr => ∃ (k : Nat) (pre : List UInt8), k ≤ s.size ∧ j = .int .i64 k ∧ Bld w.heap.size w.heap.size pre wr ∧ Hid ((unE (s.data.toList.drop k) 0).map (pre ++ ·) = unE s.data.toList 0) ∧ pre.length ≤ k ∧ Below w.heap.size w wr) (fun i _ _ _ => s.size - (intOf i).toNat)
  case atStart => exact ⟨0, [], Nat.zero_le _, rfl, Bld.fresh w, Lib.hid (by simp), Nat.zero_le _, (Below.refl _ _).alloc (Nat.le_refl _) _⟩
  case round =>
    obtain ⟨k, pre, hk, rfl, hB, HP, hpl, hbr⟩ := hrel
    by_cases hlt : k < s.size
    · cases hp : plainB s[k] with
      | true =>
        have HQ := Lib.hid hp
        go_wp2_with fail
        refine (cplain_any s[k] wr).mono ?_
        rintro e w1 ⟨rfl, rfl⟩
        rw [hp]
        clear hp
        go_wp2_with fail
        refine (writeByte_any _ _ pre _ _ hB (by omega) hbr.size).mono ?_
        rintro e w1 ⟨rfl, hB1, hb1⟩
        go_wp2_with fail
        go_roundw
        case rel => exact ⟨k + 1, pre ++ [s[k]], by omega, by go_num, hB1, Lib.hid (un_plain hlt HQ.out HP.out), by simp; omega, hbr.trans hb1⟩
        case measure => simp [intOf]; omega
      | false =>
        have HQ := Lib.hid hp
        by_cases h37 : s[k].toNat = 37
        · have hcp := cplain_any s[k] wr
          have H37 := Lib.hid h37
          rw [h37, hp] at hcp
          clear hp
          by_cases h2 : k + 2 < s.size
          · have HX := un_hex h2 H37.out HP.out
            have hw1 : IntKind.i64.wrap ((k : Int) + 1) = (k : Int) + 1 := IntWalk.i64_in _ (by omega)
            have hb1a : (0 : Int) ≤ (k : Int) + 1 := by omega
            have hb1b : (k : Int) + 1 < (s.size : Int) := by omega
            have hb2a : (0 : Int) ≤ (k : Int) + 2 := by omega
            have hb2b : (k : Int) + 2 < (s.size : Int) := by omega
            have hw2 : IntKind.i64.wrap ((k : Int) + 2) = (k : Int) + 2 := IntWalk.i64_in _ (by omega)
            cases h1 : hexV s[k + 1] with
            | none =>
              rw [h1, Option.bind_none, Option.map_none] at HX
              have hN := Lib.hid (un_none HX.symm)
              have H1 := Lib.hid h1
              clear h1 HX
              obtain ⟨z, hz⟩ : ∃ z, Lib.indexByte hexTab.data.toList s[k + 2] = z := ⟨_, rfl⟩
              have HZ := Lib.hid hz
              clear hz
              go_wp2_with fail
              refine hcp.mono ?_
              rintro e w1 ⟨rfl, rfl⟩
              go_wp2_with fail
              go_quiet (first | (exact quiet_eq (index_hex_none _ _ H1.out)) | (exact quiet_eq (index_hex_at _ _ _ HZ.out)))
              go_wp2_with fail
              go_ret2
              exact ⟨ret_se hN.out.1.symm hN.out.2.symm, below_drewN hbr _⟩
            | some a =>
              rw [h1, Option.bind_some] at HX
              have H1 := Lib.hid h1
              have hal := hexV_lt h1
              clear h1
              cases hv2 : hexV s[k + 2] with
              | none =>
                rw [hv2, Option.bind_none, Option.map_none] at HX
                have hN := Lib.hid (un_none HX.symm)
                have H2 := Lib.hid hv2
                clear hv2 HX
                go_wp2_with fail
                refine hcp.mono ?_
                rintro e w1 ⟨rfl, rfl⟩
                go_wp2_with fail
                go_quiet (first | (exact quiet_eq (index_hex_some _ _ _ H1.out)) | (exact quiet_eq (index_hex_none _ _ H2.out)))
                go_wp2_with fail
                go_ret2
                exact ⟨ret_se hN.out.1.symm hN.out.2.symm, below_drewN hbr _⟩
              | some b =>
                rw [hv2, Option.bind_some] at HX
                have H2 := Lib.hid hv2
                have hbl := hexV_lt hv2
                clear hv2
                obtain ⟨z, HZ⟩ : ∃ z, Hid (a * 16 + b = z) := ⟨_, Lib.hid rfl⟩
                have hz0 : 0 ≤ (z : Int) := by omega
                have eor : bits BinOp.or IntKind.i64 ((a : Int) * 16) (b : Int) = (z : Int) := by rw [or_four a b (by omega) (by omega) (by omega) (by omega)]; have := HZ.out; omega
                obtain ⟨q, HQq⟩ : ∃ q, Hid (UInt8.ofNat (a * 16 + b) = q) := ⟨_, Lib.hid rfl⟩
                have eb : IntKind.u8.wrap (z : Int) = (q.toNat : Int) := by rw [wrap_u8, ← HQq.out, HZ.out]
                rw [HQq.out] at HX
                cases hq : plainB q with
                | true =>
                  rw [hq, if_pos rfl, Option.map_none] at HX
                  have hN := Lib.hid (un_none HX.symm)
                  clear HX
                  go_wp2_with fail
                  refine hcp.mono ?_
                  rintro e w1 ⟨rfl, rfl⟩
                  go_wp2_with fail
                  go_quiet (first | (exact quiet_eq (index_hex_some _ _ _ H1.out)) | (exact quiet_eq (index_hex_some _ _ _ H2.out)))
                  go_wp2_with fail
                  refine (cplain_any q _).mono ?_
                  rintro e w1 ⟨rfl, rfl⟩
                  rw [hq]
                  clear hq
                  go_wp2_with fail
                  go_ret2
                  exact ⟨ret_se hN.out.1.symm hN.out.2.symm, below_drewN hbr _⟩
                | false =>
                  rw [hq, if_neg (by decide), r64_snoc] at HX
                  have HP1 := Lib.hid HX
                  clear HX
                  go_wp2_with fail
                  refine hcp.mono ?_
                  rintro e w1 ⟨rfl, rfl⟩
                  go_wp2_with fail
                  go_quiet (first | (exact quiet_eq (index_hex_some _ _ _ H1.out)) | (exact quiet_eq (index_hex_some _ _ _ H2.out)))
                  go_wp2_with fail
                  refine (cplain_any q _).mono ?_
                  rintro e w1 ⟨rfl, rfl⟩
                  rw [hq]
                  clear hq
                  go_wp2_with fail
                  have hBq : Bld w.heap.size w.heap.size pre (wr.drewN nq) := Bld.drewN hB
                  have hbq := below_drewN hbr nq
                  refine (writeByte_any _ _ pre _ _ hBq (by omega) hbq.size).mono ?_
                  rintro e w1 ⟨rfl, hB1, hb1⟩
                  go_wp2_with fail
                  go_roundw
                  case rel => exact ⟨k + 3, pre ++ [q], by omega, by go_num, hB1, HP1, by simp; omega, hbq.trans hb1⟩
                  case measure => simp [intOf]; omega
          · have hN := Lib.hid (un_none (un_short hlt H37.out h2 HP.out))
            go_wp2_with fail
            refine hcp.mono ?_
            rintro e w1 ⟨rfl, rfl⟩
            go_wp2_with fail
            go_ret2
            exact ⟨ret_se hN.out.1.symm hN.out.2.symm, hbr⟩
        · have hN := Lib.hid (un_none (un_bad hlt hp h37 HP.out))
          go_wp2_with fail
          refine (cplain_any s[k] wr).mono ?_
          rintro e w1 ⟨rfl, rfl⟩
          rw [hp]
          clear hp
          go_wp2_with fail
          go_ret2
          exact ⟨ret_se hN.out.1.symm hN.out.2.symm, hbr⟩
    · have hS := Lib.hid (un_some (un_end hlt HP.out))
      go_wp2_with fail
      refine (bldString_any _ _ pre _ hB hbr.size).mono ?_
      rintro e w1 ⟨rfl, hb1⟩
      go_wp2_with fail
      go_ret2
      exact ⟨ret_se hS.out.1.symm hS.out.2.symm, hbr.trans hb1⟩
end Go.Proofs.YtpmikpijonccjaaGreatDoor

/- identityref02.Base64 computes b64S. -/
namespace Go.Proofs.YtpmikpijonccjaaGreatDoor
open Go.RowKit

theorem byteCells_at (l : List UInt8) (j : Nat) (h : j < l.length) : (Lib.byteCells l)[j]? = some (Value.int .u8 (l[j].toNat : Int)) := by
  simp [Lib.byteCells, h]
/-- string(b), b a row of bytes of the call's own. -/
theorem conv_own {w : World} {base n : Nat} {v : Value} {l : List UInt8} (h : w.ownsRow base 5 1 v n (Lib.byteCells l)) :
    (convert 87 9 v).run Tryz.prog w = .ok (.string ⟨l.toArray⟩) w := by
  have hl : l.length = n := by have := h.1; simpa [Lib.byteCells_length] using this
  subst hl
  rcases h.2 with ⟨rfl, h0⟩ | ⟨g, cap, cur, rfl, hg, hh, rest⟩
  · have : l = [] := List.eq_nil_of_length_eq_zero h0
    subst this
    exact Lib.run_convert_nil_bytes w 87 9 5 0 Tryz.underlying87 Tryz.underlying5 Tryz.underlying9
  · refine run_convert_bytes_back w 87 9 5 ⟨g, 0, none⟩ cap l Tryz.underlying87 Tryz.underlying5 Tryz.underlying9 (fun j hj => ?_)
    exact h.cells (g := g) rfl j _ (byteCells_at l j hj)
theorem byteCells_app (l m : List UInt8) : Lib.byteCells l ++ Lib.byteCells m = Lib.byteCells (l ++ m) := by simp [Lib.byteCells]
/-- A letter more. -/
theorem own_snoc {w : World} {base n : Nat} {v : Value} {l : List UInt8} {c : UInt8} (h : w.ownsRow base 5 1 v n (Lib.byteCells l ++ [Value.int .u8 (c.toNat : Int)])) :
    w.ownsRow base 5 1 v n (Lib.byteCells (l ++ [c])) := by
  rw [← byteCells_app]; exact h
theorem tab_lit (d : Nat) (h : d < 64) : (⟨#[65, 66, 67, 68, 69, 70, 71, 72, 73, 74, 75, 76, 77, 78, 79, 80, 81, 82, 83, 84, 85, 86, 87, 88, 89, 90, 97, 98, 99, 100, 101, 102, 103, 104, 105, 106, 107, 108, 109, 110, 111, 112, 113, 114, 115, 116, 117, 118, 119, 120, 121, 122, 48, 49, 50, 51, 52, 53, 54, 55, 56, 57, 45, 95]⟩ : ByteArray)[d]'h = b64Dig d := b64Tab_el d h h
theorem r_three {s : ByteArray} {k a b c d0 d1 d2 d3 : Nat} {pre L : List UInt8} (hk : k + 2 < s.size) (ha : s[k].toNat = a) (hb : s[k + 1].toNat = b) (hc : s[k + 2].toNat = c) (h0 : a / 4 = d0) (h1 : a % 4 * 16 + b / 16 = d1) (h2 : b % 16 * 4 + c / 64 = d2) (h3 : c % 64 = d3) (HP : pre ++ b64E (s.data.toList.drop k) 0 0 = L) :
    (pre ++ [b64Dig d0] ++ [b64Dig d1] ++ [b64Dig d2] ++ [b64Dig d3]) ++ b64E (s.data.toList.drop (k + 3)) 0 0 = L := by
  rw [drop_cons s k (by omega), b64E, drop_cons s (k + 1) (by omega), b64E, drop_cons s (k + 2) hk, b64E, ha, hb, hc, h0, h1, h2, h3] at HP
  · rw [← HP]; simp
  all_goals omega
theorem r_two {s : ByteArray} {k a b d0 d1 d2 : Nat} {pre L : List UInt8} (hk : k + 2 = s.size) (ha : (s[k]'(by omega)).toNat = a) (hb : (s[k + 1]'(by omega)).toNat = b) (h0 : a / 4 = d0) (h1 : a % 4 * 16 + b / 16 = d1) (h2 : b % 16 * 4 = d2) (HP : pre ++ b64E (s.data.toList.drop k) 0 0 = L) :
    (pre ++ [b64Dig d0] ++ [b64Dig d1] ++ [b64Dig d2]) ++ b64E (s.data.toList.drop (k + 3)) 0 0 = L := by
  rw [drop_cons s k (by omega), b64E, drop_cons s (k + 1) (by omega), b64E, List.drop_of_length_le (i := k + 1 + 1) (by simp; have : s.size = s.data.size := rfl; omega), b64E, ha, hb, h0, h1, h2] at HP
  · rw [← HP, List.drop_of_length_le (by simp; have : s.size = s.data.size := rfl; omega), b64E]; simp
  all_goals omega
theorem r_one {s : ByteArray} {k a d0 d1 : Nat} {pre L : List UInt8} (hk : k + 1 = s.size) (ha : (s[k]'(by omega)).toNat = a) (h0 : a / 4 = d0) (h1 : a % 4 * 16 = d1) (HP : pre ++ b64E (s.data.toList.drop k) 0 0 = L) :
    (pre ++ [b64Dig d0] ++ [b64Dig d1]) ++ b64E (s.data.toList.drop (k + 3)) 0 0 = L := by
  rw [drop_cons s k (by omega), b64E, List.drop_of_length_le (i := k + 1) (by simp; have : s.size = s.data.size := rfl; omega), b64E, ha, h0, h1] at HP
  rw [← HP, List.drop_of_length_le (by simp; have : s.size = s.data.size := rfl; omega), b64E]; simp

end Go.Proofs.YtpmikpijonccjaaGreatDoor

/- identityref02.Escape and .Unescape compute escS, unescS. -/
namespace Go.Proofs.YtpmikpijonccjaaGreatDoor
open Go.RowKit

theorem plainB_mk {c : UInt8} {b : Bool} (h : b = true ↔ (33 ≤ c.toNat ∧ c.toNat ≤ 126 ∧ c.toNat ≠ 37 ∧ c.toNat ≠ 124 ∧ c.toNat ≠ 44 ∧ c.toNat ≠ 61 ∧ c.toNat ≠ 59 ∧ c.toNat ≠ 34)) : b = plainB c := by
  rw [Bool.eq_iff_iff, h, plainB, decide_eq_true_iff]
set_option maxHeartbeats 2000000 in
theorem rplainB_any (c : UInt8) (w : World) :
    Calls Tryz.prog 100 #[.int .u8 (c.toNat : Int)] w fun e w' => e = .returned (.bool (plainB c)) ∧ w = w' := by
  have hcs : c.toNat = 37 ∨ c.toNat = 124 ∨ c.toNat = 44 ∨ c.toNat = 61 ∨ c.toNat = 59 ∨ c.toNat = 34 ∨ c.toNat < 33 ∨ c.toNat = 33 ∨ (34 < c.toNat ∧ c.toNat < 37) ∨ (37 < c.toNat ∧ c.toNat < 44) ∨ (44 < c.toNat ∧ c.toNat < 59) ∨ c.toNat = 60 ∨ (61 < c.toNat ∧ c.toNat < 124) ∨ c.toNat = 125 ∨ c.toNat = 126 ∨ 126 < c.toNat := by omega
  go_enter Tryz.func100, Tryz.ntmps100
  generalize hn : c.toNat = n at *
  have HN := Lib.hid hn
  clear hn
  rcases hcs with rfl | rfl | rfl | rfl | rfl | rfl | h | rfl | ⟨h1, h2⟩ | ⟨h1, h2⟩ | ⟨h1, h2⟩ | rfl | ⟨h1, h2⟩ | rfl | rfl | h
  all_goals
    go_wp2
    go_ret
    exact ⟨ret_bool (plainB_mk (by rw [HN.out]; simp; try omega)), rfl⟩

theorem hexTab_lt (k : Nat) (h : k < 16) (h' : k < hexTab.size) (c : UInt8) : hexTab[k] = c ↔ hexV c = some k := by
  rw [hexTab_el k h h']
  constructor
  · rintro rfl; exact hexV_dig k h
  · intro e; exact (hexU_val e).1
def digZ (c : UInt8) : Int := match hexV c with | none => -1 | some v => (v : Int)
theorem digZ_some {c : UInt8} {v : Nat} (h : hexV c = some v) : digZ c = (v : Int) := by simp [digZ, h]
theorem digZ_none {c : UInt8} (h : hexV c = none) : digZ c = -1 := by simp [digZ, h]
theorem dig_end {c : UInt8} (h : ∀ j, j < 16 → hexV c ≠ some j) : hexV c = none := by
  cases hv : hexV c with
  | none => rfl
  | some v => exact absurd hv (h v (hexV_lt hv))
set_option maxHeartbeats 1000000 in
theorem digit_any (c : UInt8) (w : World) :
    Calls Tryz.prog 88 #[.int .u8 (c.toNat : Int)] w fun e w' => e = .returned (.int .i64 (digZ c)) ∧ w = w' := by
  go_enter Tryz.func88, Tryz.ntmps88
  go_wp2_with fail
  go_loop [3] (fun i => ∃ k : Nat, k ≤ 16 ∧ i = .int .i64 k ∧ Hid (∀ j, j < k → hexV c ≠ some j)) (fun i => 16 - (intOf i).toNat)
  case atStart => exact ⟨0, Nat.zero_le _, rfl, Lib.hid (fun j h => by omega)⟩
  case round =>
    obtain ⟨k, hk, rfl, HA⟩ := hrel
    by_cases hlt : k < 16
    · have eA := hex_lit k hlt
      by_cases he : hexV c = some k
      · have HV := Lib.hid (digZ_some he)
        have hx : (hexU k) = c := (hexU_val he).1
        clear he
        go_wp2_with fail
        go_ret
        exact ⟨ret_int HV.out.symm, rfl⟩
      · have hx : ((((hexU k).toNat : Int) == (c.toNat : Int))) = false := by
          rw [beq_eq_false_iff_ne]
          intro e
          have : hexU k = c := UInt8.toNat_inj.1 (by omega)
          exact he (this ▸ hexV_dig k hlt)
        have HE := Lib.hid he
        clear he
        go_wp2_with fail
        go_round
        case rel => exact ⟨k + 1, by omega, by go_num, Lib.hid (fun j hj => by rcases Nat.lt_succ_iff_lt_or_eq.1 hj with h | rfl; exact HA.out j h; exact HE.out)⟩
        case measure => simp [intOf]; omega
    · have hV := Lib.hid (digZ_none (dig_end (fun j hj => HA.out j (by omega))))
      go_wp2_with fail
      go_ret
      exact ⟨ret_int hV.out.symm, rfl⟩

theorem cell_three_new (w : World) (x y z : Value) (t : TypeId) : ∀ j u, [x, y, z][j]? = some u → (w.alloc (.cells #[x, y, z] t)).cell? ((⟨w.heap.size, 0, none⟩ : Addr).add j) = some u := by
  intro j u hj
  match j, hj with
  | 0, hj => simp at hj; subst hj; simp [Addr.add]
  | 1, hj => simp at hj; subst hj; simp [Addr.add]
  | 2, hj => simp at hj; subst hj; simp [Addr.add]
theorem own_three {w : World} {base n : Nat} {v : Value} {l : List UInt8} {a b c : UInt8} (h : w.ownsRow base 5 1 v n (Lib.byteCells l ++ [Value.int .u8 (a.toNat : Int), Value.int .u8 (b.toNat : Int), Value.int .u8 (c.toNat : Int)])) :
    w.ownsRow base 5 1 v n (Lib.byteCells (l ++ [a] ++ [b] ++ [c])) := by
  have e : Lib.byteCells l ++ [Value.int .u8 (a.toNat : Int), Value.int .u8 (b.toNat : Int), Value.int .u8 (c.toNat : Int)] = Lib.byteCells (l ++ [a] ++ [b] ++ [c]) := by simp [Lib.byteCells]
  rw [← e]; exact h

set_option maxHeartbeats 2000000 in
set_option maxRecDepth 100000 in
theorem resc_any (s : ByteArray) (w : World) (hs : s.size ≤ 1000000000) :
    Calls Tryz.prog 78 #[.string s] w fun e w' => e = .returned (.string (escS s)) ∧ Below w.heap.size w w' := by
  obtain ⟨i0, hi, hz0, hz1, hz2⟩ := info_parts info_byte
  go_enter Tryz.func78, Tryz.ntmps78
  go_wp2_with fail
  go_loopw [3, 4] (fun v i wr => ∃ (k : Nat) (pre : List UInt8), k ≤ s.size ∧ i = .int .i64 k ∧ wr.ownsRow w.heap.size 5 1 v pre.length (Lib.byteCells pre) ∧ Hid (pre ++ escL (s.data.toList.drop k) = escL s.data.toList) ∧ pre.length ≤ 3 * k ∧ Below w.heap.size w wr) (fun _ i _ => s.size - (intOf i).toNat)
  case atStart => exact ⟨0, [], Nat.zero_le _, rfl, World.ownsRow_nil _ _ _ _, Lib.hid rfl, Nat.zero_le _, Below.refl _ _⟩
  case round =>
    obtain ⟨k, pre, hk, rfl, hown, HP, hpl, hbr⟩ := hrel
    by_cases hlt : k < s.size
    · cases hp : plainB s[k] with
      | true =>
        have HQ := Lib.hid hp
        go_wp2_with fail
        refine (rplainB_any s[k] wr).mono ?_
        rintro e w1 ⟨rfl, rfl⟩
        rw [hp]
        clear hp
        go_wp2_with (at_builtin; refine wpList_append_own _ rfl _ _ 87 rfl w.heap.size 5 i0 (.int .u8 0) 1 1 Tryz.underlying87 hi hz0 hz1 hz2 rfl (by decide) _ _ _ rfl (hown.alloc _) ⟨wr.heap.size, 0, none⟩ 1 1 [.int .u8 (s[k].toNat : Int)] rfl rfl (cell_one_new _ _ _) (by intro u hu; simp at hu; subst hu; rfl) (by unfold maxLen; simp; omega) (by simp; omega) (by have := hbr.size; simp; omega) ?_; intro v0 w0 ho0 hg0 _)
        have hb0 : Below w.heap.size w w0 := (hbr.alloc (hbr.size) _).grown hg0 (by have := hbr.size; simp; omega) (fun q hq => (hown.lt q hq).1)
        have hw0 := own_snoc ho0
        clear ho0 hg0
        go_wp2_with fail
        go_roundw
        case rel => exact ⟨k + 1, pre ++ [s[k]], by omega, by go_num, by simpa using hw0, Lib.hid (esc_step1 hlt HQ.out HP.out), by simp; omega, hb0⟩
        case measure => simp [intOf]; omega
      | false =>
        have HQ := Lib.hid hp
        obtain ⟨c, hc⟩ : ∃ c, s[k].toNat = c := ⟨_, rfl⟩
        have HC := Lib.hid hc
        have hcl : c < 256 := hc ▸ s[k].toNat_lt
        have hcp := rplainB_any s[k] wr
        rw [hc, hp] at hcp
        clear hp
        obtain ⟨a, HA⟩ : ∃ a, Hid (c / 16 = a) := ⟨_, Lib.hid rfl⟩
        have hal : a < 16 := by have := HA.out; omega
        have ea : (c : Int).tdiv 16 = (a : Int) := by have := HA.out; rw [Int.tdiv_eq_ediv_of_nonneg (by omega)]; omega
        obtain ⟨b, HB⟩ : ∃ b, Hid (c % 16 = b) := ⟨_, Lib.hid rfl⟩
        have hbl : b < 16 := by have := HB.out; omega
        have eb : (c : Int).tmod 16 = (b : Int) := by have := HB.out; rw [Int.tmod_eq_emod_of_nonneg (by omega)]; omega
        have wa : IntKind.u8.wrap (a : Int) = (a : Int) := by rw [IntKind.wrap_u8]; omega
        have wb : IntKind.u8.wrap (b : Int) = (b : Int) := by rw [IntKind.wrap_u8]; omega
        have eA := hex_lit a hal
        have eB := hex_lit b hbl
        have hi1 : (0 : Int) ≤ (k : Int) := by omega
        have hi2 : (k : Int) < (s.size : Int) := by omega
        have ha1 : (0 : Int) ≤ (a : Int) := by omega
        have ha2 : (a : Int) < 16 := by omega
        have hb1 : (0 : Int) ≤ (b : Int) := by omega
        have hb2 : (b : Int) < 16 := by omega
        go_wp2_with fail
        refine hcp.mono ?_
        rintro e w1 ⟨rfl, rfl⟩
        go_wp2_with fail
        have hown0 := hown.drew
        have hbr' := hbr.drew
        clear hcp
        go_region_law (refine step_append_lies _ (by rfl) _ _ _ (by rfl) w.heap.size 5 i0 _ 1 1 Tryz.underlying87 hi hz0 hz1 hz2 rfl (by omega) _ pre.length (Lib.byteCells pre) (by rfl) (hown0.alloc _) ⟨wr.heap.size, 0, none⟩ 3 3 [.int .u8 37, .int .u8 ((hexU a).toNat : Int), .int .u8 ((hexU b).toNat : Int)] (by rfl) (by rfl) ?_ ?_ (by omega) (by unfold maxLen; omega) (by omega) ?_ (wr.heap.size + 1) ?_ ?_; exact cell_three_new _ _ _ _ _; (intro u hu; simp at hu; rcases hu with rfl | rfl | rfl <;> rfl); (have := hbr.size; simp; omega); (simp); (intro gg cap w0 ho0 hg0 hat hlt3))
        all_goals
          have hb0 : Below w.heap.size w w0 := (hbr'.alloc (hbr'.size) _).grown hg0 (by have : w.heap.size ≤ wr.heap.size := hbr.size; simp; omega) (fun q hq => (hown0.lt q hq).1)
          have hw0 := own_three (a := 37) ho0
          clear ho0 hg0
          go_wp2_with fail
          have hP := esc_step3 hlt HQ.out HC.out HA.out HB.out HP.out
          go_roundw
          case rel => exact ⟨k + 1, _, by omega, by go_num, by simpa using hw0, Lib.hid hP, by simp; omega, hb0⟩
          case measure => simp [intOf]; omega
    · have HE := Lib.hid (esc_end hlt HP.out)
      have hcv := conv_own hown
      go_wp2_with fail
      go_ret
      exact ⟨ret_str HE.out, hbr⟩
end Go.Proofs.YtpmikpijonccjaaGreatDoor

