/- Joined: AudLaid, AudTwo, AudLight, AudDig, AudThree. -/
import Derived.Test.YthdpkfddmkijlaaGreatDoorRows
import Derived.Test.YthdpkfddmkijlaaGreatDoorSeg1
import Derived.Test.YthdpkfddmkijlaaGreatDoorSeg7
import Derived.LaidLaws
import Derived.Lay
import Derived.Test.YthdpkfddmkijlaaGreatDoorSeg9
import Derived.Test.YthdpkfddmkijlaaGreatDoorSeg4
import Derived.Test.YthdpkfddmkijlaaGreatDoorSeg5
import Derived.Laws.OwnMore
import Derived.Deep.RegionHeld3
import Derived.Deep.AppendLies
import Derived.Deep.RegionLaw
import Derived.Deep.QuietTactic
import Derived.BigQuiet
import Derived.IntWalk
import Derived.Test.YthdpkfddmkijlaaGreatDoorSeg8
/- What the rows' listed variables give the walks: the digits, the powers of ten and strconv's errors. -/
namespace Go.Proofs.YthdpkfddmkijlaaGreatDoor
open Go.ChangeShapes Go.WideShapes Go.ChangeAt Go.RowKit

theorem row_es (u : TypeId) (h : Tryz.prog.typeName? 3 u = some "*errors.errorString") : u = 136 := by
  have star : ("*errors.errorString" : String) = "*" ++ "errors.errorString" := by decide +kernel
  exact typeName_ptr_named (nm := "errors.errorString") (by rw [← star]; kernel_rfl) (by kernel_rfl) (by decide) u (by rw [← star]; exact h)
def laidList : List (String × DataW Unit) := Rows.auditLinesRow.laid
theorem errs_lt {W : World} {n : String} {g : Nat} {cs : Array Value} (hg : Tryz.prog.globalNamed n = some g) (h : W.var? Tryz.prog n = some cs) : g < W.heap.size := by
  unfold World.var? at h
  rw [hg, Option.bind_some] at h
  split at h
  · rename_i cs t fr hb
    exact (Array.getElem?_eq_some_iff.1 hb).1
  · cases h
theorem laid_tabs {W : World} (h : laidMetH Tryz.prog laidList W) : DigOk W ∧ PowOk W ∧ ErrsOk W := by
  rw [MakeChecks.laidMetH_plain _ _ _ (by kernel_rfl)] at h
  have h3 : laidMet Tryz.prog _ W := h.tail.tail
  have h5 : laidMet Tryz.prog _ W := h3.tail.tail
  have h6 : laidMet Tryz.prog _ W := h5.tail
  have h7 : laidMet Tryz.prog _ W := h6.tail
  have t3 := Lib.tabIs_of_head (P := Tryz.prog) (W := W) (k := .u64) (zs := Lib.pow10Tab) (g := 4) (t := 131) (e := 75) (n := 20) (by kernel_rfl) (by kernel_rfl) Tryz.underlying131 Tryz.underlying75 (by kernel_rfl) (by kernel_rfl) h3
  have t4 := Lib.tabIs_of_head (P := Tryz.prog) (W := W) (k := .u8) (zs := [48, 49, 50, 51, 52, 53, 54, 55, 56, 57, 97, 98, 99, 100, 101, 102]) (g := 0) (t := 92) (e := 5) (n := 16) (by kernel_rfl) (by kernel_rfl) Tryz.underlying92 Tryz.underlying5 (by kernel_rfl) (by kernel_rfl) h7
  obtain ⟨t, fr, hb⟩ := tab_block (g := 0) (by kernel_rfl) t4
  obtain ⟨a5, s5, hv5, _⟩ := laid_sentinel (g := 2) (te := 138) h5 (by kernel_rfl) (by kernel_rfl) Tryz.underlying85 row_es Tryz.underlying136 Tryz.underlying138 rfl rfl Tryz.underlying9 (by kernel_rfl) (by kernel_rfl)
  obtain ⟨a6, s6, hv6, _⟩ := laid_sentinel (g := 1) (te := 138) h6 (by kernel_rfl) (by kernel_rfl) Tryz.underlying85 row_es Tryz.underlying136 Tryz.underlying138 rfl rfl Tryz.underlying9 (by kernel_rfl) (by kernel_rfl)
  exact ⟨⟨t, fr, hb⟩, ⟨⟨4, by kernel_rfl, tab_lt (by kernel_rfl) t3⟩, t3⟩, ⟨⟨_, _, hv6⟩, ⟨_, _, hv5⟩, errs_lt (by kernel_rfl) hv6, errs_lt (by kernel_rfl) hv5⟩⟩
/- The world that holds what is listed: it serves as the rows' witness. -/
set_option maxRecDepth 100000 in
theorem w_hv (os : Os) (args : Array Value) : ((World.laidAll Tryz.prog os laidList).forCall (fun _ _ => 0) ⟨#[], args, []⟩).variablesB Tryz.prog = true := by kernel_rfl
set_option maxRecDepth 100000 in
theorem w_hr (os : Os) (args : Array Value) : (((World.laidAll Tryz.prog os laidList).forCall (fun _ _ => 0) ⟨#[], args, []⟩).heap.toList.drop Tryz.prog.globals.size).take ((begin Tryz.prog (fun _ _ => 0) default).world.heap.size - Tryz.prog.globals.size) =
      (begin Tryz.prog (fun _ _ => 0) default).world.heap.toList.drop Tryz.prog.globals.size := by kernel_rfl
set_option maxRecDepth 100000 in
theorem w_laid (os : Os) (args : Array Value) : laidMet Tryz.prog laidList ((World.laidAll Tryz.prog os laidList).forCall (fun _ _ => 0) ⟨#[], args, []⟩).memory :=
  laidMet_laidAll args (by kernel_rfl) (by kernel_rfl)
end Go.Proofs.YthdpkfddmkijlaaGreatDoor

/- Two logs side by side: the program's and the reference's. -/
namespace Go.Proofs.YthdpkfddmkijlaaGreatDoor
open Go.RowKit

/-- Two logs side by side, both made since w0. -/
structure TwoL (w0 w : World) (g : Nat) (vL vS : Value) (l : List Ev) (g' : Nat) (v : Value) (m : List Ev) : Prop where
  a : LSt w w0.heap.size g vL vS l
  b : RLSt w w0.heap.size g' v m
  dis : ∀ i, Blk g vL vS i → ¬ BlkR g' v i
  base : Below w0.heap.size w0 w
theorem TwoL.below {w0 w w' : World} {g g' : Nat} {vL vS v : Value} {l m : List Ev} (h : TwoL w0 w g vL vS l g' v m) (hb : Below w.heap.size w w') : TwoL w0 w' g vL vS l g' v m :=
  ⟨h.a.below hb, h.b.below hb, h.dis, bthen h.base hb⟩
theorem TwoL.new {w0 w1 w2 : World} {g g' : Nat} {vL vS v : Value} (h1 : LSt w1 w0.heap.size g vL vS []) (b1 : Below w0.heap.size w0 w1) (h2 : RLSt w2 w1.heap.size g' v []) (b2 : Below w1.heap.size w1 w2) : TwoL w0 w2 g vL vS [] g' v [] :=
  ⟨h1.below b2, h2.mono b1.size, fun i hi hj => by
    have := (h1.blk hi).2
    have := (h2.blk hj).1
    omega, bthen b1 b2⟩
theorem TwoL.addL {w0 w w' : World} {g g' : Nat} {vL vS v : Value} {l m l' : List Ev} (h : TwoL w0 w g vL vS l g' v m) (ha : AddL w w0.heap.size g vL vS l' w') : ∃ vL' vS', TwoL w0 w' g vL' vS' l' g' v m := by
  obtain ⟨vL', vS', h1, hk, hg⟩ := ha
  exact ⟨vL', vS', h1, h.b.keep hk (fun i hi hj => h.dis i hj hi), fun i hi hj => by
    rcases hg i hi with h2 | h2
    · exact h.dis i h2 hj
    · have := (h.b.blk hj).2; omega, h.base.trans (hk.below h.base.size (fun i hi => (h.a.blk hi).1))⟩
theorem TwoL.addR {w0 w w' : World} {g g' : Nat} {vL vS v : Value} {l m m' : List Ev} (h : TwoL w0 w g vL vS l g' v m) (ha : AddR w w0.heap.size g' v m' w') : ∃ v', TwoL w0 w' g vL vS l g' v' m' := by
  obtain ⟨v', h1, hk, hg⟩ := ha
  exact ⟨v', h.a.keep hk (fun i hi hj => h.dis i hi hj), h1, fun i hi hj => by
    rcases hg i hj with h2 | h2
    · exact h.dis i hi h2
    · have := (h.a.blk hi).2; omega, h.base.trans (hk.below h.base.size (fun i hi => (h.b.blk hi).1))⟩
/-- The events of a log behind many Adds. -/
theorem addE_len (l : List Ev) (x : Ev) : (addE l x).length ≤ l.length + 1 := by
  rw [addE]; split <;> simp
end Go.Proofs.YthdpkfddmkijlaaGreatDoor

/- The laws' light and few. -/
namespace Go.Proofs.YthdpkfddmkijlaaGreatDoor
open Go.RowKit

def evSmall (x : Ev) : Prop := x.tenant.size ≤ 200 ∧ x.actor.size ≤ 200 ∧ x.action.size ≤ 200 ∧ x.object.size ≤ 200
instance (x : Ev) : Decidable (evSmall x) := inferInstanceAs (Decidable (x.tenant.size ≤ 200 ∧ x.actor.size ≤ 200 ∧ x.action.size ≤ 200 ∧ x.object.size ≤ 200))
/-- At most 16 events with strings of at most 200 bytes. -/
def lightB (l : List Ev) : Bool := decide (l.length ≤ 16 ∧ ∀ x ∈ l, evSmall x)
theorem lightB_no {l : List Ev} (i : Nat) (h : i < l.length) (hs : ¬ evSmall l[i]) : lightB l = false := by
  rw [lightB, decide_eq_false_iff_not]
  rintro ⟨_, h2⟩
  exact hs (h2 _ (List.getElem_mem h))
theorem lightB_end {l : List Ev} {k : Nat} (hk : k = l.length ∨ k = 16) (hz : ∀ x ∈ l.take k, evSmall x) : lightB l = decide (l.length ≤ 16) := by
  by_cases h : l.length ≤ 16
  · have e : l.take k = l := List.take_of_length_le (by omega)
    rw [e] at hz
    rw [decide_eq_true h, lightB, decide_eq_true_iff]
    exact ⟨h, hz⟩
  · rw [decide_eq_false h, lightB, decide_eq_false_iff_not]
    exact fun h2 => h h2.1
theorem lightB_facts {l : List Ev} (h : lightB l = true) : l.length ≤ 16 ∧ ∀ x ∈ l, evSmall x := by
  rw [lightB, decide_eq_true_iff] at h; exact h
set_option maxHeartbeats 4000000 in
theorem light_any (l : List Ev) (A : Option Addr) (c : Nat) (w : World) (hS : EvsAt w A l) (hl : l.length ≤ 9223372036854775807) :
    Calls Tryz.prog 10 #[.slice A l.length c] w fun e w' => e = .returned (.bool (lightB l)) ∧ w = w' := by
  have HS := Lib.hid hS
  clear hS
  go_enter Tryz.func10, Tryz.ntmps10
  go_wp2_with fail
  go_loop [3] (fun i => ∃ k : Nat, k ≤ l.length ∧ k ≤ 16 ∧ i = .int .i64 k ∧ Hid (∀ x ∈ l.take k, evSmall x)) (fun i => l.length - (intOf i).toNat)
  case atStart => exact ⟨0, Nat.zero_le _, by omega, rfl, Lib.hid (fun p hp => by simp at hp)⟩
  case round =>
    obtain ⟨k, hk, hk16, rfl, HZ⟩ := hrel
    by_cases hlt : k < l.length
    · by_cases h16 : 16 ≤ k
      · have HE : Hid (lightB l = decide (l.length ≤ 16)) := Lib.hid (lightB_end (.inr (by omega)) HZ.out)
        have HQ : Hid (decide ((l.length : Int) ≤ 16) = lightB l) := Lib.hid (by rw [HE.out]; exact decide_eq_decide.2 (by omega))
        go_wp2_with fail
        go_ret
        exact ⟨ret_bool HQ.out, rfl⟩
      · obtain ⟨b, o, rfl, c0, c1, c2, c3, c4, c5⟩ := HS.out k hlt
        have HT : Hid (l.take (k + 1) = l.take k ++ [l[k]]) := by show _ = _; rw [List.take_succ_eq_append_getElem hlt]
        have HN : Hid (¬ evSmall l[k] → lightB l = false) := Lib.hid (fun h => lightB_no k hlt h)
        generalize l[k] = p at *
        obtain ⟨p0, p1, p2, p3, p4, p5⟩ := p
        have d1 : w.cell? ⟨b, o + k * 6 + 1, none⟩ = some (.string p1) := c1
        have d2 : w.cell? ⟨b, o + k * 6 + 2, none⟩ = some (.string p2) := c2
        have d3 : w.cell? ⟨b, o + k * 6 + 3, none⟩ = some (.string p3) := c3
        have d4 : w.cell? ⟨b, o + k * 6 + 4, none⟩ = some (.string p4) := c4
        clear c0 c1 c2 c3 c4 c5
        have hcs : (200 < p1.size ∨ (p1.size ≤ 200 ∧ 200 < p2.size) ∨ (p1.size ≤ 200 ∧ p2.size ≤ 200 ∧ 200 < p3.size) ∨ (p1.size ≤ 200 ∧ p2.size ≤ 200 ∧ p3.size ≤ 200 ∧ 200 < p4.size)) ∨ (p1.size ≤ 200 ∧ p2.size ≤ 200 ∧ p3.size ≤ 200 ∧ p4.size ≤ 200) := by omega
        rcases hcs with hcs | ⟨h1, h2, h3, h4⟩
        · have HF : Hid (lightB l = false) := Lib.hid (HN.out (by
            rintro ⟨q1, q2, q3, q4⟩
            have q1' : p1.size ≤ 200 := q1
            have q2' : p2.size ≤ 200 := q2
            have q3' : p3.size ≤ 200 := q3
            have q4' : p4.size ≤ 200 := q4
            omega))
          rcases hcs with h1 | ⟨h1, h2⟩ | ⟨h1, h2, h3⟩ | ⟨h1, h2, h3, h4⟩
          all_goals
            go_wp2_with fail
            go_ret
            exact ⟨ret_bool HF.out.symm, rfl⟩
        · have HZ2 : Hid (∀ x ∈ l.take (k + 1), evSmall x) := Lib.hid (by
            rw [HT.out]
            intro x hx
            rw [List.mem_append, List.mem_singleton] at hx
            rcases hx with hx | rfl
            · exact HZ.out x hx
            · exact ⟨h1, h2, h3, h4⟩)
          go_wp2_with fail
          go_round
          case rel => exact ⟨k + 1, hlt, by omega, by go_num, HZ2⟩
          case measure => simp [intOf]; omega
    · have HE : Hid (lightB l = decide (l.length ≤ 16)) := Lib.hid (lightB_end (.inl (by omega)) HZ.out)
      have HQ : Hid (decide ((l.length : Int) ≤ 16) = lightB l) := Lib.hid (by rw [HE.out]; exact decide_eq_decide.2 (by omega))
      go_wp2_with fail
      go_ret
      exact ⟨ret_bool HQ.out, rfl⟩
def fewB (l : List ByteArray) : Bool := decide (l.length ≤ 20 ∧ ∀ s ∈ l, s.size ≤ 100)
theorem fewB_no {l : List ByteArray} (i : Nat) (h : i < l.length) (hs : 100 < l[i].size) : fewB l = false := by
  rw [fewB, decide_eq_false_iff_not]
  rintro ⟨_, h2⟩
  have := h2 _ (List.getElem_mem h)
  omega
theorem fewB_end {l : List ByteArray} {k : Nat} (hk : k = l.length ∨ k = 20) (hz : ∀ x ∈ l.take k, x.size ≤ 100) : fewB l = decide (l.length ≤ 20) := by
  by_cases h : l.length ≤ 20
  · have e : l.take k = l := List.take_of_length_le (by omega)
    rw [e] at hz
    rw [decide_eq_true h, fewB, decide_eq_true_iff]
    exact ⟨h, hz⟩
  · rw [decide_eq_false h, fewB, decide_eq_false_iff_not]
    exact fun h2 => h h2.1
theorem fewB_facts {l : List ByteArray} (h : fewB l = true) : l.length ≤ 20 ∧ ∀ x ∈ l, x.size ≤ 100 := by
  rw [fewB, decide_eq_true_iff] at h; exact h
set_option maxHeartbeats 2000000 in
theorem few_any (l : List ByteArray) (A : Option Addr) (c : Nat) (w : World) (hS : Strs w A l) (hl : l.length ≤ 9223372036854775807) :
    Calls Tryz.prog 16 #[.slice A l.length c] w fun e w' => e = .returned (.bool (fewB l)) ∧ w = w' := by
  have HS := Lib.hid hS
  clear hS
  go_enter Tryz.func16, Tryz.ntmps16
  go_wp2_with fail
  go_loop [3] (fun i => ∃ k : Nat, k ≤ l.length ∧ k ≤ 20 ∧ i = .int .i64 k ∧ Hid (∀ x ∈ l.take k, x.size ≤ 100)) (fun i => l.length - (intOf i).toNat)
  case atStart => exact ⟨0, Nat.zero_le _, by omega, rfl, Lib.hid (fun p hp => by simp at hp)⟩
  case round =>
    obtain ⟨k, hk, hk20, rfl, HZ⟩ := hrel
    by_cases hlt : k < l.length
    · by_cases h20 : 20 ≤ k
      · have HE : Hid (fewB l = decide (l.length ≤ 20)) := Lib.hid (fewB_end (.inr (by omega)) HZ.out)
        have HQ : Hid (decide ((l.length : Int) ≤ 20) = fewB l) := Lib.hid (by rw [HE.out]; exact decide_eq_decide.2 (by omega))
        go_wp2_with fail
        go_ret
        exact ⟨ret_bool HQ.out, rfl⟩
      · obtain ⟨b, o, rfl, hc⟩ := HS.out k hlt
        have HT : Hid (l.take (k + 1) = l.take k ++ [l[k]]) := by show _ = _; rw [List.take_succ_eq_append_getElem hlt]
        have HN : Hid (100 < l[k].size → fewB l = false) := Lib.hid (fun h => fewB_no k hlt h)
        generalize l[k] = s at *
        by_cases hs : 100 < s.size
        · have HF := Lib.hid (HN.out hs)
          go_wp2_with fail
          go_ret
          exact ⟨ret_bool HF.out.symm, rfl⟩
        · have HZ2 : Hid (∀ x ∈ l.take (k + 1), x.size ≤ 100) := Lib.hid (by
            rw [HT.out]
            intro x hx
            rw [List.mem_append, List.mem_singleton] at hx
            rcases hx with hx | rfl
            · exact HZ.out x hx
            · omega)
          go_wp2_with fail
          go_round
          case rel => exact ⟨k + 1, hlt, by omega, by go_num, HZ2⟩
          case measure => simp [intOf]; omega
    · have HE : Hid (fewB l = decide (l.length ≤ 20)) := Lib.hid (fewB_end (.inl (by omega)) HZ.out)
      have HQ : Hid (decide ((l.length : Int) ≤ 20) = fewB l) := Lib.hid (by rw [HE.out]; exact decide_eq_decide.2 (by omega))
      go_wp2_with fail
      go_ret
      exact ⟨ret_bool HQ.out, rfl⟩
end Go.Proofs.YthdpkfddmkijlaaGreatDoor

/- The law's digested and collision. -/
namespace Go.Proofs.YthdpkfddmkijlaaGreatDoor
open Go.RowKit

/-- What was digested, the first string first. -/
def dgdL (M : List ByteArray) : List ByteArray := (digR M.reverse).reverse
theorem dgdL_len (M : List ByteArray) : (dgdL M).length = M.length + 1 := by rw [dgdL, List.length_reverse, digR_len, List.length_reverse]
theorem dgdL_nil : dgdL [] = [⟨#[]⟩] := rfl
theorem dgdL_next {M : List ByteArray} {k : Nat} (h : k < M.length) : dgdL (M.take (k + 1)) = dgdL (M.take k) ++ [textS (topR (M.take k).reverse) ++ barS ++ M[k]] := by
  rw [dgdL, dgdL, List.take_succ_eq_append_getElem h, List.reverse_append, List.reverse_singleton, List.singleton_append, digR, List.reverse_cons, topR]
theorem dgdL_last (M : List ByteArray) : (dgdL M)[M.length]? = some (topR M.reverse) := by
  obtain ⟨t, ht⟩ := digR_top M.reverse
  have hl := digR_len M.reverse
  rw [ht, List.length_cons, List.length_reverse] at hl
  rw [dgdL, ht, List.reverse_cons, List.getElem?_append_right (by simp; omega)]
  simp [show M.length - t.length = 0 by omega]
theorem topR_size (M : List ByteArray) (hz : ∀ s ∈ M, s.size ≤ 2000) : (topR M).size ≤ 2017 := by
  cases M with
  | nil => exact Nat.zero_le _
  | cons s M =>
    have := hz s (by simp)
    have e := textS_size (topR M)
    have e2 : barS.size = 1 := rfl
    rw [topR, ByteArray.size_append, ByteArray.size_append]
    omega
theorem strVs_at' (l : List ByteArray) (j : Nat) : (strVs l)[j]? = l[j]?.map strV := by simp [strVs]
set_option maxHeartbeats 4000000 in
set_option maxRecDepth 100000 in
theorem digested_any (l : List Ev) (A : Option Addr) (c : Nat) (w : World) (hd : DigOk w) (hS : EvsAt w A l) (hI : ∀ x ∈ l, EvIn x) (hl : l.length ≤ 100000) :
    Calls Tryz.prog 41 #[.slice A l.length c] w fun e w' => RetStrs w.heap.size w' e (dgdL (l.map lineS)) ∧ Below w.heap.size w w' := by
  have HS := Lib.hid hS
  have HI := Lib.hid hI
  clear hS hI
  obtain ⟨i0, hi, hz0, hz1, hz2⟩ := info_parts Tryz.info_s
  have HO1 : Hid ((w.alloc (.cells #[.string ⟨#[]⟩] 9)).ownsRow w.heap.size 9 1 (.slice (some ⟨w.heap.size, 0, none⟩) 1 1) 1 (strVs [⟨#[]⟩])) := Lib.hid (World.ownsRow_lit w #[.string ⟨#[]⟩] 1 (Nat.le_refl _) (by decide) rfl)
  have B1 : Hid (Below w.heap.size w (w.alloc (.cells #[.string ⟨#[]⟩] 9))) := Lib.hid ((Below.refl _ _).alloc (Nat.le_refl _) _)
  go_enter Tryz.func41, Tryz.ntmps41
  go_wp2_with fail
  refine (rlines_any l A c _ (HS.out.below B1.out) HI.out (by omega)).mono ?_
  rintro e w2 ⟨⟨A2, c2, rfl, hs2, hf2⟩, hb2⟩
  obtain ⟨M, HM⟩ : ∃ M, Hid (l.map lineS = M) := ⟨_, Lib.hid rfl⟩
  have HML : Hid (M.length = l.length) := Lib.hid (by rw [← HM.out]; simp)
  have HMZ : Hid (∀ s ∈ M, s.size ≤ 2000) := Lib.hid (by rw [← HM.out]; intro s hs; rw [List.mem_map] at hs; obtain ⟨x, _, rfl⟩ := hs; exact lineS_size x)
  rw [HM.out] at hs2
  rw [HM.out]
  have hML : M.length ≤ 100000 := by rw [HML.out]; exact hl
  have S2 := Lib.hid hs2
  have HF2 : Hid (∀ p, A2 = some p → w.heap.size < p.block) := Lib.hid (fun p hp => by have := hf2 p hp; simp at this; omega)
  have O2 := Lib.hid (own_below HO1.out hb2)
  have B2 := Lib.hid (bthen B1.out hb2)
  have HB2 : Hid (∀ p, A2 = some p → ∀ g, (Value.slice (some ⟨w.heap.size, 0, none⟩) 1 1).ownBlock = some g → p.block ≠ g) := Lib.hid (fun p hp g hg e => by
    have := HF2.out p hp
    have hg' : w.heap.size = g := Option.some.inj hg
    omega)
  clear hs2 hf2 hb2 HO1 B1
  go_wp2_with fail
  go_loopw [3, 5] (fun v i wr => ∃ k : Nat, k ≤ M.length ∧ i = .int .i64 k ∧ Hid (wr.ownsRow w.heap.size 9 1 v (k + 1) (strVs (dgdL (M.take k)))) ∧ Hid (Strs wr A2 M) ∧ Hid (∀ p, A2 = some p → ∀ g, v.ownBlock = some g → p.block ≠ g) ∧ Hid (Below w.heap.size w wr)) (fun _ i _ => M.length - (intOf i).toNat)
  case atStart => exact ⟨0, Nat.zero_le _, rfl, O2, S2, HB2, B2⟩
  case round =>
    obtain ⟨k, hk, rfl, HO, HSM, HAP, HBR⟩ := hrel
    clear O2 S2 HB2 B2
    obtain ⟨q, cq, rfl, hq1, hq2⟩ := HO.out.form (by omega)
    by_cases hlt : k < M.length
    · obtain ⟨b, o, rfl, hc⟩ := HSM.out k hlt
      have HTL : Hid ((dgdL (M.take k))[k]? = some (topR (M.take k).reverse)) := Lib.hid (by
        have h := dgdL_last (M.take k)
        rw [List.length_take, Nat.min_eq_left hk] at h
        exact h)
      have HNX := Lib.hid (dgdL_next hlt)
      have HTZ : Hid ((topR (M.take k).reverse).size ≤ 2017) := Lib.hid (topR_size _ (fun s hs => HMZ.out s (List.mem_of_mem_take (List.mem_reverse.1 hs))))
      have hLZ := HMZ.out _ (List.getElem_mem hlt)
      obtain ⟨T, HT⟩ : ∃ T, Hid (topR (M.take k).reverse = T) := ⟨_, Lib.hid rfl⟩
      obtain ⟨D, HD⟩ : ∃ D, Hid (dgdL (M.take k) = D) := ⟨_, Lib.hid rfl⟩
      obtain ⟨S, HSE⟩ : ∃ S, Hid (M[k] = S) := ⟨_, Lib.hid rfl⟩
      rw [HT.out] at HTL HNX HTZ
      rw [HD.out] at HO HTL HNX
      rw [HSE.out] at HNX hc hLZ
      have HDL : Hid (D.length = k + 1) := Lib.hid (by rw [← HD.out, dgdL_len, List.length_take, Nat.min_eq_left hk])
      have g0 : _ = some (Value.string T) := (HO.out.cellAt k (by omega)).trans (by rw [strVs_at', HTL.out]; rfl)
      have hTz := HTZ.out
      have hTt := textS_size T
      have s1 : ¬ 9223372036854775807 < (textS T).size + 1 := by omega
      have s2 : ¬ 9223372036854775807 < (textS T).size + 1 + S.size := by omega
      have i1 : (0 : Int) ≤ (k : Int) := by omega
      have i2 : (k : Int) < (k : Int) + 1 := by omega
      have i3 : (k : Int) < (M.length : Int) := by omega
      have hblt := World.block_lt_of_cell? _ _ hc
      have hne : some b ≠ some q := fun e => HAP.out _ rfl q rfl (by injection e)
      have HOD := Lib.hid HO.out.drew
      have HBD : Hid (Below w.heap.size w _) := Lib.hid HBR.out.drew
      have HBS := HBR.out.size
      go_wp2_with fail
      clear hTt
      have hd2 := (hd.below HBR.out).drew
      have hTl : T.size ≤ 9223372036854775807 := by omega
      go_region_law (first
        | (go_simp; go_at_call 39; refine (text_any _ _ hd2 hTl).mono ?_; rintro e w3 ⟨rfl, hb3⟩; have hc3 : w3.cell? ⟨b, o + k, none⟩ = some (.string S) := (hb3.cell (p := ⟨b, o + k, none⟩) hblt).trans hc)
        | (refine step_append_lies _ (by rfl) _ _ _ (by rfl) w.heap.size 9 i0 _ 1 16 Tryz.underlying33 hi hz0 hz1 hz2 rfl (by omega) _ (k + 1) (strVs D) (by rfl) ?_ ⟨w3.heap.size, 0, none⟩ 1 1 [strV (textS T ++ ⟨#[124]⟩ ++ S)] (by rfl) (by rfl) ?_ ?_ (by omega) (by unfold maxLen; omega) (by omega) ?_ (w3.heap.size + 1) ?_ ?_; exact (own_below HOD.out hb3).alloc _; exact cell_one_new _ _ _; (intro u hu; simp at hu; subst hu; rfl); (have hz3 : wr.heap.size ≤ w3.heap.size := hb3.size; simp; omega); (simp); (intro gg cap w4 ho4 hg4 hat4 hlt4))
        | fail)
      all_goals
        have hz3 : wr.heap.size ≤ w3.heap.size := hb3.size
        have hg5 : (w3.alloc (.cells #[.string (textS T ++ ⟨#[124]⟩ ++ S)] 9)).grownBy w4 (some q) := hg4
        have hat5 : some q = some gg ∨ gg = w3.heap.size + 1 := hat4
        have HBX : Hid (Below w.heap.size w w4) := Lib.hid (((HBD.out.trans (hb3.mono HBS)).alloc (by omega) _).grown hg5 (by simp; omega) (fun p hp => by injection hp with hp; omega))
        have HO4 : Hid (w4.ownsRow w.heap.size 9 1 (.slice (some ⟨gg, 0, none⟩) (k + 1 + 1) cap) (k + 1 + 1) (strVs (dgdL (M.take (k + 1))))) := Lib.hid (by
          rw [HNX.out, show strVs (D ++ [textS T ++ barS ++ S]) = strVs D ++ [strV (textS T ++ ⟨#[124]⟩ ++ S)] by simp [strVs, barS]]; exact ho4)
        have HS4 : Hid (Strs w4 (some ⟨b, o, none⟩) M) := Lib.hid ((((HSM.out.below (Below.refl _ _).drew).below hb3).alloc _).far hg5 (fun p g hp hg e => hne (by injection hp with hp; injection hg with hg; subst hp; subst hg; exact congrArg some e)))
        have HA4 : Hid (∀ p, (some ⟨b, o, none⟩ : Option Addr) = some p → ∀ g, (Value.slice (some ⟨gg, 0, none⟩) (k + 1 + 1) cap).ownBlock = some g → p.block ≠ g) := Lib.hid (fun p hp g hg e => by
          injection hp with hp
          subst hp
          have hgg : gg = g := Option.some.inj hg
          have e' : b = g := e
          rcases hat5 with h | h
          · exact hne (by rw [h, e', hgg])
          · omega)
        clear ho4 hg4 hat4 hlt4 hg5 hat5 hb3 hc3
        go_wp2_with fail
        go_roundw
        case rel => exact ⟨k + 1, hlt, by go_num, HO4, HS4, HA4, HBX⟩
        case measure => simp [intOf]; omega
    · have hke : k = M.length := by omega
      go_wp2_with fail
      go_ret
      refine ⟨?_, HBR.out⟩
      have hT : M.take k = M := List.take_of_length_le (by omega)
      have HO' := HO.out
      rw [hT] at HO'
      rw [HM.out]
      exact RetStrs.own HO' (by rw [dgdL_len, hke]) (fun j hj => by rw [strVs_at', List.getElem?_eq_getElem hj]; rfl)
theorem coll_at (a b : List ByteArray) : collR a b = true ↔ ∃ k, ∃ (h : k < a.length) (h2 : k < b.length), a[k] ≠ b[k] ∧ textS a[k] = textS b[k] := by
  induction a generalizing b with
  | nil => simp [collR]
  | cons x a ih =>
    cases b with
    | nil => simp [collR]
    | cons y b =>
      rw [collR, Bool.or_eq_true, Bool.and_eq_true, decide_eq_true_iff, decide_eq_true_iff, ih]
      constructor
      · rintro (h | ⟨k, h1, h2, h3⟩)
        · exact ⟨0, by simp, by simp, h⟩
        · exact ⟨k + 1, by simpa using h1, by simpa using h2, by simpa using h3⟩
      · rintro ⟨k, h1, h2, h3⟩
        cases k with
        | zero => exact .inl h3
        | succ k => exact .inr ⟨k, by simpa using h1, by simpa using h2, by simpa using h3⟩
theorem rev_at (a : List ByteArray) (k : Nat) (h : k < a.length) : a.reverse[k]'(by simpa using h) = a[a.length - (k + 1)]'(by omega) := by
  rw [List.getElem_reverse]; congr 1; omega
/-- No collision among the last pairs. -/
def NoC (a b : List ByteArray) (n : Nat) : Prop := ∀ k, k + 1 < n → ∀ (h1 : k < a.length) (h2 : k < b.length), ¬ (a[a.length - (k + 1)]'(by omega) ≠ b[b.length - (k + 1)]'(by omega) ∧ textS (a[a.length - (k + 1)]'(by omega)) = textS (b[b.length - (k + 1)]'(by omega)))
theorem NoC.end_ {a b : List ByteArray} {n : Nat} (h : NoC a b n) (hn : a.length < n ∨ b.length < n) : collR a.reverse b.reverse = false := by
  rw [Bool.eq_false_iff]
  intro hc
  obtain ⟨k, h1, h2, h3⟩ := (coll_at _ _).1 hc
  have h1' : k < a.length := by simpa using h1
  have h2' : k < b.length := by simpa using h2
  rw [rev_at a k h1', rev_at b k h2'] at h3
  exact h k (by omega) h1' h2' h3
theorem NoC.next {a b : List ByteArray} {n : Nat} (h : NoC a b n) (h0 : 1 ≤ n) (h1 : n ≤ a.length) (h2 : n ≤ b.length) (hn : ¬ (a[a.length - n]'(by omega) ≠ b[b.length - n]'(by omega) ∧ textS (a[a.length - n]'(by omega)) = textS (b[b.length - n]'(by omega)))) : NoC a b (n + 1) := by
  intro k hk ha hb
  by_cases hkn : k + 1 = n
  · subst hkn; exact hn
  · exact h k (by omega) ha hb
theorem coll_yes {a b : List ByteArray} {n : Nat} (h0 : 1 ≤ n) (h1 : n ≤ a.length) (h2 : n ≤ b.length) (hn : a[a.length - n]'(by omega) ≠ b[b.length - n]'(by omega) ∧ textS (a[a.length - n]'(by omega)) = textS (b[b.length - n]'(by omega))) : collR a.reverse b.reverse = true := by
  obtain ⟨k, rfl⟩ : ∃ k, n = k + 1 := ⟨n - 1, by omega⟩
  refine (coll_at _ _).2 ⟨k, by rw [List.length_reverse]; omega, by rw [List.length_reverse]; omega, ?_⟩
  rw [rev_at a k (by omega), rev_at b k (by omega)]; exact hn
set_option maxHeartbeats 4000000 in
set_option maxRecDepth 100000 in
theorem collision_any (a b : List ByteArray) (A B : Option Addr) (c c9 : Nat) (w : World) (hd : DigOk w) (hA : Strs w A a) (hB : Strs w B b) (hl : a.length ≤ 1000000) (hl2 : b.length ≤ 1000000) (hz : ∀ s ∈ a, s.size ≤ 1000000) (hz2 : ∀ s ∈ b, s.size ≤ 1000000) :
    Calls Tryz.prog 40 #[.slice A a.length c, .slice B b.length c9] w fun e w' => e = .returned (.bool (collR a.reverse b.reverse)) ∧ Below w.heap.size w w' := by
  have SA := Lib.hid hA
  have SB := Lib.hid hB
  have ZA := Lib.hid hz
  have ZB := Lib.hid hz2
  have B0 := Lib.hid (Below.refl w.heap.size w)
  clear hA hB hz hz2
  obtain ⟨V, HV⟩ : ∃ V, Hid (collR a.reverse b.reverse = V) := ⟨_, Lib.hid rfl⟩
  rw [HV.out]
  have N0 : Hid (NoC a b 1) := Lib.hid (fun k hk => absurd hk (by omega))
  go_enter Tryz.func40, Tryz.ntmps40
  go_wp2_with fail
  go_loopw [5] (fun i wr => ∃ n : Nat, 1 ≤ n ∧ n ≤ a.length + 1 ∧ i = .int .i64 n ∧ Hid (NoC a b n) ∧ Hid (Below w.heap.size w wr)) (fun i _ => a.length + 1 - (intOf i).toNat)
  case atStart => exact ⟨1, by omega, by omega, rfl, N0, B0⟩
  case round =>
    obtain ⟨n, hn1, hn2, rfl, HN, HB⟩ := hrel
    clear N0 B0
    by_cases h1 : n ≤ a.length
    · by_cases h2 : n ≤ b.length
      · obtain ⟨p, o, rfl, ca⟩ := (SA.out.below HB.out) (a.length - n) (by omega)
        obtain ⟨q, u, rfl, cb⟩ := (SB.out.below HB.out) (b.length - n) (by omega)
        have NX := Lib.hid (HN.out.next hn1 h1 h2)
        have YS := Lib.hid (@coll_yes a b n hn1 h1 h2)
        have za := ZA.out _ (List.getElem_mem (show a.length - n < a.length by omega))
        have zb := ZB.out _ (List.getElem_mem (show b.length - n < b.length by omega))
        obtain ⟨x, HX⟩ : ∃ x, Hid (a[a.length - n]'(by omega) = x) := ⟨_, Lib.hid rfl⟩
        obtain ⟨y, HY⟩ : ∃ y, Hid (b[b.length - n]'(by omega) = y) := ⟨_, Lib.hid rfl⟩
        rw [HX.out] at NX YS za ca
        rw [HY.out] at NX YS zb cb
        have wa : IntKind.i64.wrap ((a.length : Int) - (n : Int)) = (a.length : Int) - (n : Int) := IntWalk.i64_in _ (by omega)
        have wb : IntKind.i64.wrap ((b.length : Int) - (n : Int)) = (b.length : Int) - (n : Int) := IntWalk.i64_in _ (by omega)
        have ta : ((a.length : Int) - (n : Int)).toNat = a.length - n := by omega
        have tb : ((b.length : Int) - (n : Int)).toNat = b.length - n := by omega
        have i1 : (0 : Int) ≤ (a.length : Int) - (n : Int) := by omega
        have i2 : (0 : Int) ≤ (b.length : Int) - (n : Int) := by omega
        have i3 : (a.length : Int) - (n : Int) < (a.length : Int) := by omega
        have i4 : (b.length : Int) - (n : Int) < (b.length : Int) := by omega
        go_wp2_with fail
        go_quiet (fail)
        have HBN : Hid (Below w.heap.size w (wr.drewN nq)) := Lib.hid ⟨HB.out.os, HB.out.tape, HB.out.output, HB.out.size, HB.out.block⟩
        clear ca cb wa wb ta tb i1 i2 i3 i4
        by_cases hxy : x = y
        · have HN2 := Lib.hid (NX.out (fun h => h.1 hxy))
          subst hxy
          have e1 : (x.toList != x.toList) = false := by simp
          go_wp2_with fail
          go_roundw
          case rel => exact ⟨n + 1, by omega, by omega, by go_num, HN2, HBN⟩
          case measure => simp [intOf]; omega
        · have e1 : (x.toList == y.toList) = false := str_ne hxy
          have e3 : (x.toList != y.toList) = true := by rw [bne, e1]; rfl
          have e4 : ¬ x.toList = y.toList := fun h => by rw [h] at e1; simp at e1
          go_wp2_with fail
          refine (text_any x _ (hd.below HBN.out) (by omega)).mono ?_
          rintro e w3 ⟨rfl, hb3⟩
          have B3 := Lib.hid (bthen HBN.out hb3)
          clear hb3
          go_wp2_with fail
          refine (text_any y _ (hd.below B3.out) (by omega)).mono ?_
          rintro e w4 ⟨rfl, hb4⟩
          have B4 := Lib.hid (bthen B3.out hb4)
          clear hb4
          by_cases ht : textS x = textS y
          · have e2 : ((textS x).toList == (textS y).toList) = true := by rw [ht]; simp
            have HVT : Hid (V = true) := Lib.hid (by rw [← HV.out]; exact YS.out ⟨hxy, ht⟩)
            clear hxy ht
            go_wp2_with fail
            go_ret
            exact ⟨by rw [HVT.out]; rfl, B4.out⟩
          · have e2 : ((textS x).toList == (textS y).toList) = false := str_ne ht
            have HN2 := Lib.hid (NX.out (fun h => ht h.2))
            clear hxy ht
            go_wp2_with fail
            go_roundw
            case rel => exact ⟨n + 1, by omega, by omega, by go_num, HN2, B4⟩
            case measure => simp [intOf]; omega
      · have hlt2 : b.length < n := by omega
        have HVF : Hid (V = false) := Lib.hid (by rw [← HV.out]; exact HN.out.end_ (.inr hlt2))
        go_wp2_with fail
        go_ret
        exact ⟨by rw [HVF.out]; rfl, HB.out⟩
    · have hlt1 : a.length < n := by omega
      have HVF : Hid (V = false) := Lib.hid (by rw [← HV.out]; exact HN.out.end_ (.inl hlt1))
      go_wp2_with fail
      go_ret
      exact ⟨by rw [HVF.out]; rfl, HB.out⟩
end Go.Proofs.YthdpkfddmkijlaaGreatDoor

/- A log and two lists of its events in one memory. -/
namespace Go.Proofs.YthdpkfddmkijlaaGreatDoor
open Go.RowKit

/-- The log (events m) and two slices of events (a, b), none of which shares a block with another. -/
structure Three (w0 w : World) (g : Nat) (vL vS : Value) (m : List Ev) (v1 : Value) (a : List Ev) (v2 : Value) (b : List Ev) : Prop where
  log : LSt w w0.heap.size g vL vS m
  one : w.ownsRow w0.heap.size 24 6 v1 a.length (evCs a)
  two : w.ownsRow w0.heap.size 24 6 v2 b.length (evCs b)
  d1 : ∀ i, v1.ownBlock = some i → ¬ Blk g vL vS i
  d2 : ∀ i, v2.ownBlock = some i → ¬ Blk g vL vS i
  d3 : ∀ i, v1.ownBlock = some i → v2.ownBlock ≠ some i
  base : Below w0.heap.size w0 w
theorem Three.below {w0 w w' : World} {g : Nat} {vL vS v1 v2 : Value} {m a b : List Ev} (h : Three w0 w g vL vS m v1 a v2 b) (hb : Below w.heap.size w w') : Three w0 w' g vL vS m v1 a v2 b :=
  ⟨h.log.below hb, own_below h.one hb, own_below h.two hb, h.d1, h.d2, h.d3, bthen h.base hb⟩
theorem Three.new {w0 w1 : World} {g : Nat} {vL vS : Value} (h1 : LSt w1 w0.heap.size g vL vS []) (b1 : Below w0.heap.size w0 w1) : Three w0 w1 g vL vS [] (.slice none 0 0) [] (.slice none 0 0) [] :=
  ⟨h1, World.ownsRow_nil _ _ _ _, World.ownsRow_nil _ _ _ _, fun _ h => by simp [Value.ownBlock] at h, fun _ h => by simp [Value.ownBlock] at h, fun _ h => by simp [Value.ownBlock] at h, b1⟩
theorem Three.add {w0 w w' : World} {g : Nat} {vL vS v1 v2 : Value} {m a b m' : List Ev} (h : Three w0 w g vL vS m v1 a v2 b) (ha : AddL w w0.heap.size g vL vS m' w') : ∃ vL' vS', Three w0 w' g vL' vS' m' v1 a v2 b := by
  obtain ⟨vL', vS', h1, hk, hg⟩ := ha
  refine ⟨vL', vS', h1, own_keeps h.one hk h.d1, own_keeps h.two hk h.d2, fun i hi hj => ?_, fun i hi hj => ?_, h.d3, h.base.trans (hk.below h.base.size (fun i hi => (h.log.blk hi).1))⟩
  · rcases hg i hj with h2 | h2
    · exact h.d1 i hi h2
    · have := (h.one.lt i hi).2; omega
  · rcases hg i hj with h2 | h2
    · exact h.d2 i hi h2
    · have := (h.two.lt i hi).2; omega
/-- An append to the first list. -/
theorem Three.app1 {w0 w w' : World} {g : Nat} {vL vS v1 v2 v' : Value} {m a b : List Ev} {x : Ev} (h : Three w0 w g vL vS m v1 a v2 b) (ho : w'.ownsRow w0.heap.size 24 6 v' (a.length + 1) (evCs a ++ evC x)) (hg : w.grownBy w' v1.ownBlock) (hat : v'.ownBlock = v1.ownBlock ∨ v'.ownBlock = some w.heap.size) : Three w0 w' g vL vS m v' (a ++ [x]) v2 b := by
  have hk : Keeps w w' (fun i => v1.ownBlock = some i) := Keeps.of_grown hg (fun i hi => hi)
  refine ⟨h.log.keep hk (fun i hi hj => h.d1 i hj hi), ?_, own_keeps h.two hk (fun i hi hj => h.d3 i hj hi), fun i hi hj => ?_, h.d2, fun i hi hj => ?_, h.base.grown hg h.base.size (fun q hq => (h.one.lt q hq).1)⟩
  · rw [List.length_append, List.length_singleton, ← evCs_snoc]; exact ho
  · rcases hat with e | e
    · exact h.d1 i (e ▸ hi) hj
    · rw [e] at hi; injection hi with hi; have := (h.log.blk hj).2; omega
  · rcases hat with e | e
    · exact h.d3 i (e ▸ hi) hj
    · rw [e] at hi; injection hi with hi; have := (h.two.lt i hj).2; omega
/-- An append to the second list. -/
theorem Three.app2 {w0 w w' : World} {g : Nat} {vL vS v1 v2 v' : Value} {m a b : List Ev} {x : Ev} (h : Three w0 w g vL vS m v1 a v2 b) (ho : w'.ownsRow w0.heap.size 24 6 v' (b.length + 1) (evCs b ++ evC x)) (hg : w.grownBy w' v2.ownBlock) (hat : v'.ownBlock = v2.ownBlock ∨ v'.ownBlock = some w.heap.size) : Three w0 w' g vL vS m v1 a v' (b ++ [x]) := by
  have hk : Keeps w w' (fun i => v2.ownBlock = some i) := Keeps.of_grown hg (fun i hi => hi)
  refine ⟨h.log.keep hk (fun i hi hj => h.d2 i hj hi), own_keeps h.one hk (fun i hi hj => h.d3 i hi hj), ?_, h.d1, fun i hi hj => ?_, fun i hi hj => ?_, h.base.grown hg h.base.size (fun q hq => (h.two.lt q hq).1)⟩
  · rw [List.length_append, List.length_singleton, ← evCs_snoc]; exact ho
  · rcases hat with e | e
    · exact h.d2 i (e ▸ hi) hj
    · rw [e] at hi; injection hi with hi; have := (h.log.blk hj).2; omega
  · rcases hat with e | e
    · exact h.d3 i hi (e ▸ hj)
    · rw [e] at hj; injection hj with hj; have := (h.one.lt i hi).2; omega
end Go.Proofs.YthdpkfddmkijlaaGreatDoor

