/- digest.Root and its reference compute rootS. -/
import Derived.Test.YtnbdlehkadiepaaDoorDigTreeR
namespace Go.Proofs.YtnbdlehkadiepaaDoor
open Go.RowKit

/-- The root over a level, with fuel. -/
def rootF : Nat → List ByteArray → ByteArray
  | 0, l => l.headD ByteArray.empty
  | f + 1, l => if l.length ≤ 1 then l.headD ByteArray.empty else rootF f (upL l)
def rootS (l : List ByteArray) : ByteArray := if l.length = 0 then textS ⟨#[]⟩ else rootF l.length (leavesL l)
theorem upL_length (l : List ByteArray) : (upL l).length = (l.length + 1) / 2 := by simp [upL]
theorem leavesL_length (l : List ByteArray) : (leavesL l).length = l.length := by simp [leavesL]
theorem rootF_step (f : Nat) (l : List ByteArray) (h : 1 < l.length) (hf : l.length ≤ f) : ∃ f', (upL l).length ≤ f' ∧ rootF f l = rootF f' (upL l) := by
  cases f with
  | zero => omega
  | succ f => exact ⟨f, by rw [upL_length]; omega, by rw [rootF, if_neg (by omega)]⟩
theorem rootF_end (f : Nat) (l : List ByteArray) (h : l.length = 1) : rootF f l = l[0] := by
  match l, h with
  | [a], _ => cases f <;> rfl
theorem leavesL_sizes (l : List ByteArray) : ∀ s ∈ leavesL l, s.size ≤ 1000000 := by
  intro s hs
  simp only [leavesL, List.mem_map] at hs
  obtain ⟨a, _, rfl⟩ := hs
  have := textS_size (zeroS ++ a)
  unfold leafS; omega
theorem upL_sizes (l : List ByteArray) (h : ∀ s ∈ l, s.size ≤ 1000000) : ∀ s ∈ upL l, s.size ≤ 1000000 := by
  intro s hs
  simp only [upL, List.mem_map, List.mem_range] at hs
  obtain ⟨i, hi, rfl⟩ := hs
  by_cases h2 : 2 * i + 1 < l.length
  · have := textS_size (oneS ++ l[2 * i] ++ l[2 * i + 1])
    rw [upAt, dif_pos h2]; unfold nodeS; omega
  · rw [upAt, dif_neg h2, List.getD_eq_getElem?_getD, List.getElem?_eq_getElem (by omega), Option.getD_some]
    exact h _ (List.getElem_mem _)
def lenOf : Value → Nat
  | .slice _ n _ => n
  | _ => 0

set_option maxHeartbeats 1000000 in
theorem root_any (l : List ByteArray) (A : Option Addr) (c : Nat) (w : World) (hd : DigOk w) (hS : Strs w A l) (hl : l.length ≤ 1000000) (hz : ∀ s ∈ l, s.size ≤ 1000000) :
    Calls Tryd.prog 29 #[.slice A l.length c] w fun e w' => e = .returned (.string (rootS l)) ∧ Below w.heap.size w w' := by
  by_cases h0 : l.length = 0
  · have HE : Hid (rootS l = textS ⟨#[]⟩) := by show _ = _; rw [rootS, if_pos h0]
    have hb : ((l.length : Int) == 0) = true := by rw [h0]; rfl
    clear h0 hz hS
    go_enter Tryd.func29, Tryd.ntmps29
    go_wp2_with (go_at_call 16; refine (text_any _ _ hd (by decide)).mono ?_; rintro e w2 ⟨rfl, hb2⟩)
    go_ret
    exact ⟨ret_str HE.out.symm, hb2⟩
  · have HL := Lib.hid (leaves_any l A c w hd hS hl hz)
    have HE : Hid (rootS l = rootF l.length (leavesL l)) := by show _ = _; rw [rootS, if_neg h0]
    have hb : ((l.length : Int) == 0) = false := by rw [beq_eq_false_iff_ne]; omega
    have hpos : 1 ≤ l.length := by omega
    clear h0 hz hS
    go_enter Tryd.func29, Tryd.ntmps29
    go_wp2_with (go_at_call 37; refine HL.out.mono ?_; rintro e w1 ⟨⟨A1, c1, rfl, hS1, _⟩, hb1⟩)
    go_loopw [3] (fun v wr => ∃ lv A2 c2 f, v = .slice A2 lv.length c2 ∧ Strs wr A2 lv ∧ 1 ≤ lv.length ∧ lv.length ≤ 1000000 ∧ (∀ s ∈ lv, s.size ≤ 1000000) ∧ lv.length ≤ f ∧ rootF f lv = rootS l ∧ Below w.heap.size w wr) (fun v _ => lenOf v)
    case atStart => exact ⟨leavesL l, A1, c1, l.length, rfl, hS1, by rw [leavesL_length]; exact hpos, by rw [leavesL_length]; exact hl, leavesL_sizes l, by rw [leavesL_length]; exact Nat.le_refl _, HE.out.symm, hb1⟩
    case round =>
      obtain ⟨lv, A2, c2, f, rfl, hS2, hp2, hl2, hz2, hf2, hr2, hbr⟩ := hrel
      by_cases hlt : 1 < lv.length
      · obtain ⟨f', hf', hr'⟩ := rootF_step f lv hlt hf2
        have HU := Lib.hid (up_any lv A2 c2 wr (hd.below hbr) hS2 hl2 hz2)
        have HR : Hid (rootF f' (upL lv) = rootS l) := by show _ = _; rw [← hr', hr2]
        have HZ := Lib.hid (upL_sizes lv hz2)
        clear hr' hr2 hz2 hS2 hS1
        go_wp2_with (go_at_call 38; refine HU.out.mono ?_; rintro e w3 ⟨⟨A3, c3, rfl, hS3, _⟩, hb3⟩)
        go_roundw
        case rel => exact ⟨upL lv, A3, c3, f', rfl, hS3, by rw [upL_length]; omega, by rw [upL_length]; omega, HZ.out, hf', HR.out, bthen hbr hb3⟩
        case measure => simp only [lenOf, upL_length]; omega
      · have h1 : lv.length = 1 := by omega
        obtain ⟨b, o, rfl, hc⟩ := hS2 0 (by omega)
        have HX : Hid (lv[0] = rootS l) := by show _ = _; rw [← hr2, rootF_end f lv h1]
        have HH := Lib.hid h1
        clear h1 hr2 hz2 hS2 hS1
        generalize lv[0] = x at *
        rw [Nat.add_zero] at hc
        go_wp2
        go_ret
        exact ⟨ret_str HX.out, hbr⟩

set_option maxHeartbeats 1000000 in
theorem rroot_any (l : List ByteArray) (A : Option Addr) (c : Nat) (w : World) (hS : Strs w A l) (hl : l.length ≤ 1000000) (hz : ∀ s ∈ l, s.size ≤ 1000000) :
    Calls Tryd.prog 30 #[.slice A l.length c] w fun e w' => e = .returned (.string (rootS l)) ∧ Below w.heap.size w w' := by
  by_cases h0 : l.length = 0
  · have HE : Hid (rootS l = textS ⟨#[]⟩) := by show _ = _; rw [rootS, if_pos h0]
    have HL := Lib.hid (rleaves_any l A c w hS hl hz)
    have hb : (((leavesL l).length : Int) == 0) = true := by rw [leavesL_length, h0]; rfl
    clear h0 hz hS
    go_enter Tryd.func30, Tryd.ntmps30
    go_wp2_with (first | (go_at_call 39; refine HL.out.mono ?_; rintro e w1 ⟨⟨A1, c1, rfl, hS1, _⟩, hb1⟩) | (go_at_call 17; refine (rtext_any _ _ (by decide)).mono ?_; rintro e w2 ⟨rfl, rfl⟩))
    go_ret
    exact ⟨ret_str HE.out.symm, hb1⟩
  · have HL := Lib.hid (rleaves_any l A c w hS hl hz)
    have HE : Hid (rootS l = rootF l.length (leavesL l)) := by show _ = _; rw [rootS, if_neg h0]
    have hb : (((leavesL l).length : Int) == 0) = false := by rw [beq_eq_false_iff_ne, leavesL_length]; omega
    have hpos : 1 ≤ l.length := by omega
    clear h0 hz hS
    go_enter Tryd.func30, Tryd.ntmps30
    go_wp2_with (go_at_call 39; refine HL.out.mono ?_; rintro e w1 ⟨⟨A1, c1, rfl, hS1, _⟩, hb1⟩)
    go_loopw [3] (fun v wr => ∃ lv A2 c2 f, v = .slice A2 lv.length c2 ∧ Strs wr A2 lv ∧ 1 ≤ lv.length ∧ lv.length ≤ 1000000 ∧ (∀ s ∈ lv, s.size ≤ 1000000) ∧ lv.length ≤ f ∧ rootF f lv = rootS l ∧ Below w.heap.size w wr) (fun v _ => lenOf v)
    case atStart => exact ⟨leavesL l, A1, c1, l.length, rfl, hS1, by rw [leavesL_length]; exact hpos, by rw [leavesL_length]; exact hl, leavesL_sizes l, by rw [leavesL_length]; exact Nat.le_refl _, HE.out.symm, hb1⟩
    case round =>
      obtain ⟨lv, A2, c2, f, rfl, hS2, hp2, hl2, hz2, hf2, hr2, hbr⟩ := hrel
      by_cases hlt : 1 < lv.length
      · obtain ⟨f', hf', hr'⟩ := rootF_step f lv hlt hf2
        have HU := Lib.hid (rup_any lv A2 c2 wr hS2 hl2 hz2)
        have HR : Hid (rootF f' (upL lv) = rootS l) := by show _ = _; rw [← hr', hr2]
        have HZ := Lib.hid (upL_sizes lv hz2)
        clear hr' hr2 hz2 hS2 hS1
        go_wp2_with (go_at_call 40; refine HU.out.mono ?_; rintro e w3 ⟨⟨A3, c3, rfl, hS3, _⟩, hb3⟩)
        go_roundw
        case rel => exact ⟨upL lv, A3, c3, f', rfl, hS3, by rw [upL_length]; omega, by rw [upL_length]; omega, HZ.out, hf', HR.out, bthen hbr hb3⟩
        case measure => simp only [lenOf, upL_length]; omega
      · have h1 : lv.length = 1 := by omega
        obtain ⟨b, o, rfl, hc⟩ := hS2 0 (by omega)
        have HX : Hid (lv[0] = rootS l) := by show _ = _; rw [← hr2, rootF_end f lv h1]
        have HH := Lib.hid h1
        clear h1 hr2 hz2 hS2 hS1
        generalize lv[0] = x at *
        rw [Nat.add_zero] at hc
        go_wp2
        go_ret
        exact ⟨ret_str HX.out, hbr⟩
end Go.Proofs.YtnbdlehkadiepaaDoor
