/- Joined: AudLaid, AudTwo, AudLight. -/
import Derived.Test.YthdpkfddmkijlaaGreatDoorRows
import Derived.Test.YthdpkfddmkijlaaGreatDoorSeg1
import Derived.Test.YthdpkfddmkijlaaGreatDoorSeg6
import Derived.LaidLaws
import Derived.Lay
import Derived.Test.YthdpkfddmkijlaaGreatDoorSeg8
import Derived.Test.YthdpkfddmkijlaaGreatDoorSeg3
/- What the rows' listed variables give the walks: the digits, the powers of ten and strconv's errors. -/
namespace Go.Proofs.YthdpkfddmkijlaaGreatDoor
open Go.ChangeShapes Go.WideShapes Go.ChangeAt Go.RowKit

theorem row_es (u : TypeId) (h : Tryz.prog.typeName? 3 u = some "*errors.errorString") : u = 136 := by
  have star : ("*errors.errorString" : String) = "*" ++ "errors.errorString" := by decide +kernel
  exact typeName_ptr_named (nm := "errors.errorString") (by rw [← star]; kernel_rfl) (by kernel_rfl) (by decide) u (by rw [← star]; exact h)
def laidList : List (String × DataW Unit) := Rows.auditLinesRow.laid
theorem errs_lt {W : World} {n : String} {g : Nat} {cs : Array Value} (hg : Tryz.prog.globalNamed n = some g) (h : W.var? Tryz.prog n = some cs) : g < W.heap.size := by
  unfold World.var? at h
  rw [hg, Option.bind_some] at h
  split at h
  · rename_i cs t fr hb
    exact (Array.getElem?_eq_some_iff.1 hb).1
  · cases h
theorem laid_tabs {W : World} (h : laidMetH Tryz.prog laidList W) : DigOk W ∧ PowOk W ∧ ErrsOk W := by
  rw [MakeChecks.laidMetH_plain _ _ _ (by kernel_rfl)] at h
  have h3 : laidMet Tryz.prog _ W := h.tail.tail
  have h5 : laidMet Tryz.prog _ W := h3.tail.tail
  have h6 : laidMet Tryz.prog _ W := h5.tail
  have h7 : laidMet Tryz.prog _ W := h6.tail
  have t3 := Lib.tabIs_of_head (P := Tryz.prog) (W := W) (k := .u64) (zs := Lib.pow10Tab) (g := 4) (t := 131) (e := 75) (n := 20) (by kernel_rfl) (by kernel_rfl) Tryz.underlying131 Tryz.underlying75 (by kernel_rfl) (by kernel_rfl) h3
  have t4 := Lib.tabIs_of_head (P := Tryz.prog) (W := W) (k := .u8) (zs := [48, 49, 50, 51, 52, 53, 54, 55, 56, 57, 97, 98, 99, 100, 101, 102]) (g := 0) (t := 92) (e := 5) (n := 16) (by kernel_rfl) (by kernel_rfl) Tryz.underlying92 Tryz.underlying5 (by kernel_rfl) (by kernel_rfl) h7
  obtain ⟨t, fr, hb⟩ := tab_block (g := 0) (by kernel_rfl) t4
  obtain ⟨a5, s5, hv5, _⟩ := laid_sentinel (g := 2) (te := 138) h5 (by kernel_rfl) (by kernel_rfl) Tryz.underlying85 row_es Tryz.underlying136 Tryz.underlying138 rfl rfl Tryz.underlying9 (by kernel_rfl) (by kernel_rfl)
  obtain ⟨a6, s6, hv6, _⟩ := laid_sentinel (g := 1) (te := 138) h6 (by kernel_rfl) (by kernel_rfl) Tryz.underlying85 row_es Tryz.underlying136 Tryz.underlying138 rfl rfl Tryz.underlying9 (by kernel_rfl) (by kernel_rfl)
  exact ⟨⟨t, fr, hb⟩, ⟨⟨4, by kernel_rfl, tab_lt (by kernel_rfl) t3⟩, t3⟩, ⟨⟨_, _, hv6⟩, ⟨_, _, hv5⟩, errs_lt (by kernel_rfl) hv6, errs_lt (by kernel_rfl) hv5⟩⟩
/- The world that holds what is listed: it serves as the rows' witness. -/
set_option maxRecDepth 100000 in
theorem w_hv (os : Os) (args : Array Value) : ((World.laidAll Tryz.prog os laidList).forCall (fun _ _ => 0) ⟨#[], args, []⟩).variablesB Tryz.prog = true := by kernel_rfl
set_option maxRecDepth 100000 in
theorem w_hr (os : Os) (args : Array Value) : (((World.laidAll Tryz.prog os laidList).forCall (fun _ _ => 0) ⟨#[], args, []⟩).heap.toList.drop Tryz.prog.globals.size).take ((begin Tryz.prog (fun _ _ => 0) default).world.heap.size - Tryz.prog.globals.size) =
      (begin Tryz.prog (fun _ _ => 0) default).world.heap.toList.drop Tryz.prog.globals.size := by kernel_rfl
set_option maxRecDepth 100000 in
theorem w_laid (os : Os) (args : Array Value) : laidMet Tryz.prog laidList ((World.laidAll Tryz.prog os laidList).forCall (fun _ _ => 0) ⟨#[], args, []⟩).memory :=
  laidMet_laidAll args (by kernel_rfl) (by kernel_rfl)
end Go.Proofs.YthdpkfddmkijlaaGreatDoor

/- Two logs side by side: the program's and the reference's. -/
namespace Go.Proofs.YthdpkfddmkijlaaGreatDoor
open Go.RowKit

/-- Two logs side by side, both made since w0. -/
structure TwoL (w0 w : World) (g : Nat) (vL vS : Value) (l : List Ev) (g' : Nat) (v : Value) (m : List Ev) : Prop where
  a : LSt w w0.heap.size g vL vS l
  b : RLSt w w0.heap.size g' v m
  dis : ∀ i, Blk g vL vS i → ¬ BlkR g' v i
  base : Below w0.heap.size w0 w
theorem TwoL.below {w0 w w' : World} {g g' : Nat} {vL vS v : Value} {l m : List Ev} (h : TwoL w0 w g vL vS l g' v m) (hb : Below w.heap.size w w') : TwoL w0 w' g vL vS l g' v m :=
  ⟨h.a.below hb, h.b.below hb, h.dis, bthen h.base hb⟩
theorem TwoL.new {w0 w1 w2 : World} {g g' : Nat} {vL vS v : Value} (h1 : LSt w1 w0.heap.size g vL vS []) (b1 : Below w0.heap.size w0 w1) (h2 : RLSt w2 w1.heap.size g' v []) (b2 : Below w1.heap.size w1 w2) : TwoL w0 w2 g vL vS [] g' v [] :=
  ⟨h1.below b2, h2.mono b1.size, fun i hi hj => by
    have := (h1.blk hi).2
    have := (h2.blk hj).1
    omega, bthen b1 b2⟩
theorem TwoL.addL {w0 w w' : World} {g g' : Nat} {vL vS v : Value} {l m l' : List Ev} (h : TwoL w0 w g vL vS l g' v m) (ha : AddL w w0.heap.size g vL vS l' w') : ∃ vL' vS', TwoL w0 w' g vL' vS' l' g' v m := by
  obtain ⟨vL', vS', h1, hk, hg⟩ := ha
  exact ⟨vL', vS', h1, h.b.keep hk (fun i hi hj => h.dis i hj hi), fun i hi hj => by
    rcases hg i hi with h2 | h2
    · exact h.dis i h2 hj
    · have := (h.b.blk hj).2; omega, h.base.trans (hk.below h.base.size (fun i hi => (h.a.blk hi).1))⟩
theorem TwoL.addR {w0 w w' : World} {g g' : Nat} {vL vS v : Value} {l m m' : List Ev} (h : TwoL w0 w g vL vS l g' v m) (ha : AddR w w0.heap.size g' v m' w') : ∃ v', TwoL w0 w' g vL vS l g' v' m' := by
  obtain ⟨v', h1, hk, hg⟩ := ha
  exact ⟨v', h.a.keep hk (fun i hi hj => h.dis i hi hj), h1, fun i hi hj => by
    rcases hg i hj with h2 | h2
    · exact h.dis i hi h2
    · have := (h.a.blk hi).2; omega, h.base.trans (hk.below h.base.size (fun i hi => (h.b.blk hi).1))⟩
/-- The events of a log behind many Adds. -/
theorem addE_len (l : List Ev) (x : Ev) : (addE l x).length ≤ l.length + 1 := by
  rw [addE]; split <;> simp
end Go.Proofs.YthdpkfddmkijlaaGreatDoor

/- The laws' light and few. -/
namespace Go.Proofs.YthdpkfddmkijlaaGreatDoor
open Go.RowKit

def evSmall (x : Ev) : Prop := x.tenant.size ≤ 200 ∧ x.actor.size ≤ 200 ∧ x.action.size ≤ 200 ∧ x.object.size ≤ 200
instance (x : Ev) : Decidable (evSmall x) := inferInstanceAs (Decidable (x.tenant.size ≤ 200 ∧ x.actor.size ≤ 200 ∧ x.action.size ≤ 200 ∧ x.object.size ≤ 200))
/-- At most 16 events with strings of at most 200 bytes. -/
def lightB (l : List Ev) : Bool := decide (l.length ≤ 16 ∧ ∀ x ∈ l, evSmall x)
theorem lightB_no {l : List Ev} (i : Nat) (h : i < l.length) (hs : ¬ evSmall l[i]) : lightB l = false := by
  rw [lightB, decide_eq_false_iff_not]
  rintro ⟨_, h2⟩
  exact hs (h2 _ (List.getElem_mem h))
theorem lightB_end {l : List Ev} {k : Nat} (hk : k = l.length ∨ k = 16) (hz : ∀ x ∈ l.take k, evSmall x) : lightB l = decide (l.length ≤ 16) := by
  by_cases h : l.length ≤ 16
  · have e : l.take k = l := List.take_of_length_le (by omega)
    rw [e] at hz
    rw [decide_eq_true h, lightB, decide_eq_true_iff]
    exact ⟨h, hz⟩
  · rw [decide_eq_false h, lightB, decide_eq_false_iff_not]
    exact fun h2 => h h2.1
theorem lightB_facts {l : List Ev} (h : lightB l = true) : l.length ≤ 16 ∧ ∀ x ∈ l, evSmall x := by
  rw [lightB, decide_eq_true_iff] at h; exact h
set_option maxHeartbeats 4000000 in
theorem light_any (l : List Ev) (A : Option Addr) (c : Nat) (w : World) (hS : EvsAt w A l) (hl : l.length ≤ 9223372036854775807) :
    Calls Tryz.prog 10 #[.slice A l.length c] w fun e w' => e = .returned (.bool (lightB l)) ∧ w = w' := by
  have HS := Lib.hid hS
  clear hS
  go_enter Tryz.func10, Tryz.ntmps10
  go_wp2_with fail
  go_loop [3] (fun i => ∃ k : Nat, k ≤ l.length ∧ k ≤ 16 ∧ i = .int .i64 k ∧ Hid (∀ x ∈ l.take k, evSmall x)) (fun i => l.length - (intOf i).toNat)
  case atStart => exact ⟨0, Nat.zero_le _, by omega, rfl, Lib.hid (fun p hp => by simp at hp)⟩
  case round =>
    obtain ⟨k, hk, hk16, rfl, HZ⟩ := hrel
    by_cases hlt : k < l.length
    · by_cases h16 : 16 ≤ k
      · have HE : Hid (lightB l = decide (l.length ≤ 16)) := Lib.hid (lightB_end (.inr (by omega)) HZ.out)
        have HQ : Hid (decide ((l.length : Int) ≤ 16) = lightB l) := Lib.hid (by rw [HE.out]; exact decide_eq_decide.2 (by omega))
        go_wp2_with fail
        go_ret
        exact ⟨ret_bool HQ.out, rfl⟩
      · obtain ⟨b, o, rfl, c0, c1, c2, c3, c4, c5⟩ := HS.out k hlt
        have HT : Hid (l.take (k + 1) = l.take k ++ [l[k]]) := by show _ = _; rw [List.take_succ_eq_append_getElem hlt]
        have HN : Hid (¬ evSmall l[k] → lightB l = false) := Lib.hid (fun h => lightB_no k hlt h)
        generalize l[k] = p at *
        obtain ⟨p0, p1, p2, p3, p4, p5⟩ := p
        have d1 : w.cell? ⟨b, o + k * 6 + 1, none⟩ = some (.string p1) := c1
        have d2 : w.cell? ⟨b, o + k * 6 + 2, none⟩ = some (.string p2) := c2
        have d3 : w.cell? ⟨b, o + k * 6 + 3, none⟩ = some (.string p3) := c3
        have d4 : w.cell? ⟨b, o + k * 6 + 4, none⟩ = some (.string p4) := c4
        clear c0 c1 c2 c3 c4 c5
        have hcs : (200 < p1.size ∨ (p1.size ≤ 200 ∧ 200 < p2.size) ∨ (p1.size ≤ 200 ∧ p2.size ≤ 200 ∧ 200 < p3.size) ∨ (p1.size ≤ 200 ∧ p2.size ≤ 200 ∧ p3.size ≤ 200 ∧ 200 < p4.size)) ∨ (p1.size ≤ 200 ∧ p2.size ≤ 200 ∧ p3.size ≤ 200 ∧ p4.size ≤ 200) := by omega
        rcases hcs with hcs | ⟨h1, h2, h3, h4⟩
        · have HF : Hid (lightB l = false) := Lib.hid (HN.out (by
            rintro ⟨q1, q2, q3, q4⟩
            have q1' : p1.size ≤ 200 := q1
            have q2' : p2.size ≤ 200 := q2
            have q3' : p3.size ≤ 200 := q3
            have q4' : p4.size ≤ 200 := q4
            omega))
          rcases hcs with h1 | ⟨h1, h2⟩ | ⟨h1, h2, h3⟩ | ⟨h1, h2, h3, h4⟩
          all_goals
            go_wp2_with fail
            go_ret
            exact ⟨ret_bool HF.out.symm, rfl⟩
        · have HZ2 : Hid (∀ x ∈ l.take (k + 1), evSmall x) := Lib.hid (by
            rw [HT.out]
            intro x hx
            rw [List.mem_append, List.mem_singleton] at hx
            rcases hx with hx | rfl
            · exact HZ.out x hx
            · exact ⟨h1, h2, h3, h4⟩)
          go_wp2_with fail
          go_round
          case rel => exact ⟨k + 1, hlt, by omega, by go_num, HZ2⟩
          case measure => simp [intOf]; omega
    · have HE : Hid (lightB l = decide (l.length ≤ 16)) := Lib.hid (lightB_end (.inl (by omega)) HZ.out)
      have HQ : Hid (decide ((l.length : Int) ≤ 16) = lightB l) := Lib.hid (by rw [HE.out]; exact decide_eq_decide.2 (by omega))
      go_wp2_with fail
      go_ret
      exact ⟨ret_bool HQ.out, rfl⟩
def fewB (l : List ByteArray) : Bool := decide (l.length ≤ 20 ∧ ∀ s ∈ l, s.size ≤ 100)
theorem fewB_no {l : List ByteArray} (i : Nat) (h : i < l.length) (hs : 100 < l[i].size) : fewB l = false := by
  rw [fewB, decide_eq_false_iff_not]
  rintro ⟨_, h2⟩
  have := h2 _ (List.getElem_mem h)
  omega
theorem fewB_end {l : List ByteArray} {k : Nat} (hk : k = l.length ∨ k = 20) (hz : ∀ x ∈ l.take k, x.size ≤ 100) : fewB l = decide (l.length ≤ 20) := by
  by_cases h : l.length ≤ 20
  · have e : l.take k = l := List.take_of_length_le (by omega)
    rw [e] at hz
    rw [decide_eq_true h, fewB, decide_eq_true_iff]
    exact ⟨h, hz⟩
  · rw [decide_eq_false h, fewB, decide_eq_false_iff_not]
    exact fun h2 => h h2.1
theorem fewB_facts {l : List ByteArray} (h : fewB l = true) : l.length ≤ 20 ∧ ∀ x ∈ l, x.size ≤ 100 := by
  rw [fewB, decide_eq_true_iff] at h; exact h
set_option maxHeartbeats 2000000 in
theorem few_any (l : List ByteArray) (A : Option Addr) (c : Nat) (w : World) (hS : Strs w A l) (hl : l.length ≤ 9223372036854775807) :
    Calls Tryz.prog 16 #[.slice A l.length c] w fun e w' => e = .returned (.bool (fewB l)) ∧ w = w' := by
  have HS := Lib.hid hS
  clear hS
  go_enter Tryz.func16, Tryz.ntmps16
  go_wp2_with fail
  go_loop [3] (fun i => ∃ k : Nat, k ≤ l.length ∧ k ≤ 20 ∧ i = .int .i64 k ∧ Hid (∀ x ∈ l.take k, x.size ≤ 100)) (fun i => l.length - (intOf i).toNat)
  case atStart => exact ⟨0, Nat.zero_le _, by omega, rfl, Lib.hid (fun p hp => by simp at hp)⟩
  case round =>
    obtain ⟨k, hk, hk20, rfl, HZ⟩ := hrel
    by_cases hlt : k < l.length
    · by_cases h20 : 20 ≤ k
      · have HE : Hid (fewB l = decide (l.length ≤ 20)) := Lib.hid (fewB_end (.inr (by omega)) HZ.out)
        have HQ : Hid (decide ((l.length : Int) ≤ 20) = fewB l) := Lib.hid (by rw [HE.out]; exact decide_eq_decide.2 (by omega))
        go_wp2_with fail
        go_ret
        exact ⟨ret_bool HQ.out, rfl⟩
      · obtain ⟨b, o, rfl, hc⟩ := HS.out k hlt
        have HT : Hid (l.take (k + 1) = l.take k ++ [l[k]]) := by show _ = _; rw [List.take_succ_eq_append_getElem hlt]
        have HN : Hid (100 < l[k].size → fewB l = false) := Lib.hid (fun h => fewB_no k hlt h)
        generalize l[k] = s at *
        by_cases hs : 100 < s.size
        · have HF := Lib.hid (HN.out hs)
          go_wp2_with fail
          go_ret
          exact ⟨ret_bool HF.out.symm, rfl⟩
        · have HZ2 : Hid (∀ x ∈ l.take (k + 1), x.size ≤ 100) := Lib.hid (by
            rw [HT.out]
            intro x hx
            rw [List.mem_append, List.mem_singleton] at hx
            rcases hx with hx | rfl
            · exact HZ.out x hx
            · omega)
          go_wp2_with fail
          go_round
          case rel => exact ⟨k + 1, hlt, by omega, by go_num, HZ2⟩
          case measure => simp [intOf]; omega
    · have HE : Hid (fewB l = decide (l.length ≤ 20)) := Lib.hid (fewB_end (.inl (by omega)) HZ.out)
      have HQ : Hid (decide ((l.length : Int) ≤ 20) = fewB l) := Lib.hid (by rw [HE.out]; exact decide_eq_decide.2 (by omega))
      go_wp2_with fail
      go_ret
      exact ⟨ret_bool HQ.out, rfl⟩
end Go.Proofs.YthdpkfddmkijlaaGreatDoor

