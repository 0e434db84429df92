/- The hash tree of a list: plain functions; digest.leaves, up, Root, Path and their references. -/
import Derived.Test.YtnbdlehkadiepaaDoorDigText
import Derived.Laws.OwnMore
import Derived.Deep.RegionHeld3
import Derived.Deep.AppendLies
import Derived.Deep.RegionLaw
namespace Go.Proofs.YtnbdlehkadiepaaDoor
open Go.RowKit

/-- A slice's address reads as a list of strings. -/
def Strs (w : World) (A : Option Addr) (l : List ByteArray) : Prop :=
  ∀ i, (h : i < l.length) → ∃ b o, A = some ⟨b, o, none⟩ ∧ w.cell? ⟨b, o + i, none⟩ = some (.string l[i])
theorem Strs.below {w w' : World} {A : Option Addr} {l : List ByteArray} (h : Strs w A l) (hb : Below w.heap.size w w') : Strs w' A l := by
  intro i hi
  obtain ⟨b, o, e, hc⟩ := h i hi
  exact ⟨b, o, e, (hb.cell (World.block_lt_of_cell? w _ hc)).trans hc⟩
theorem Strs.nil_ (w : World) (A : Option Addr) : Strs w A [] := fun i h => absurd h (by simp)
/-- What a function that hands back a list of strings says. -/
def RetStrs (B : Nat) (w' : World) (e : Ending) (l : List ByteArray) : Prop := ∃ A cap, e = .returned (.slice A l.length cap) ∧ Strs w' A l ∧ ∀ p, A = some p → B ≤ p.block
theorem Strs.own {w : World} {base e g n cap : Nat} {xs : List Value} {l : List ByteArray} (h : w.ownsRow base e 1 (.slice (some ⟨g, 0, none⟩) n cap) n xs) (hn : n = l.length)
    (hx : ∀ j, (h : j < l.length) → xs[j]? = some (.string l[j])) : Strs w (some ⟨g, 0, none⟩) l := by
  intro i hi
  refine ⟨g, 0, rfl, ?_⟩
  rw [Nat.zero_add, h.cellAt i (by omega), hx i hi]

theorem RetStrs.own {w : World} {base e n : Nat} {v : Value} {xs : List Value} {l : List ByteArray} (h : w.ownsRow base e 1 v n xs) (hn : l.length = n)
    (hx : ∀ j, (h : j < l.length) → xs[j]? = some (.string l[j])) : RetStrs base w (.returned v) l := by
  rcases h.2 with ⟨rfl, rfl⟩ | ⟨g, cap, cur, rfl, hg, _⟩
  · have : l = [] := List.eq_nil_of_length_eq_zero hn
    subst this
    exact ⟨none, 0, rfl, Strs.nil_ _ _, fun p h => by cases h⟩
  · subst hn
    exact ⟨_, cap, rfl, Strs.own h rfl hx, fun p h => by cases h; exact hg⟩
def zeroS : ByteArray := ⟨#[48]⟩
def oneS : ByteArray := ⟨#[49]⟩
def leafS (s : ByteArray) : ByteArray := textS (zeroS ++ s)
def nodeS (a b : ByteArray) : ByteArray := textS (oneS ++ a ++ b)
def leavesL (l : List ByteArray) : List ByteArray := l.map leafS
theorem leafS_room (s : ByteArray) (h : s.size ≤ 1000000) : ((⟨#[48]⟩ : ByteArray) ++ s).size ≤ 9223372036854775807 := by
  simp only [ByteArray.size_append]
  have : (⟨#[48]⟩ : ByteArray).size = 1 := rfl
  omega
/-- The first k cells of a row hold the first k strings of a list. -/
def Done (xs : List Value) (l : List ByteArray) (k : Nat) : Prop := ∀ j, (h : j < l.length) → j < k → xs[j]? = some (.string l[j])
theorem Done.zero (xs : List Value) (l : List ByteArray) : Done xs l 0 := fun j _ h => absurd h (by omega)
theorem Done.set {xs : List Value} {l : List ByteArray} {k : Nat} (h : Done xs l k) (hx : k < xs.length) {v : Value} (hv : ∀ hl : k < l.length, v = .string l[k]) : Done (xs.set k v) l (k + 1) := by
  intro j hj hjk
  by_cases e : j = k
  · subst e
    rw [List.getElem?_set_self hx, hv hj]
  · rw [List.getElem?_set_ne (Ne.symm e)]
    exact h j hj (by omega)
theorem Tryd.info_s : (Tryd.prog.info? 9).map (fun i => (i.zero, i.size, i.bytes)) = some (some (.string ByteArray.empty), 1, 16) := by kernel_rfl

set_option maxHeartbeats 1000000 in
theorem leaves_any (l : List ByteArray) (A : Option Addr) (c : Nat) (w : World) (hd : DigOk w) (hS : Strs w A l) (hl : l.length ≤ 1000000) (hz : ∀ s ∈ l, s.size ≤ 1000000) :
    Calls Tryd.prog 37 #[.slice A l.length c] w fun e w' => RetStrs w.heap.size w' e (leavesL l) ∧ Below w.heap.size w w' := by
  have HZ := Lib.hid hz
  clear hz
  obtain ⟨i0, hi, hz0, hz1, hz2⟩ := info_parts Tryd.info_s
  go_enter Tryd.func37, Tryd.ntmps37
  go_wp2_with (at_make; refine wpList_make_full _ rfl _ _ 35 rfl w.heap.size 9 i0 (.string ByteArray.empty) 1 Tryd.underlying35 hi hz0 hz1 .i64 .i64 _ _ l.length rfl rfl rfl rfl (by rw [hz2]; omega) (by unfold maxLen; omega) (Nat.le_refl _) ?_; intro w1 hown1 hg1)
  have HB1 := Lib.hid ((Below.refl w.heap.size w).grown hg1 (Nat.le_refl _) (by intro k hk; cases hk))
  clear hg1
  go_loopw [11] (fun i wr => ∃ k : Nat, ∃ xs : List Value, k ≤ l.length ∧ i = .int .i64 k ∧ wr.ownsRow w.heap.size 9 1 (.slice (some ⟨w.heap.size, 0, none⟩) l.length l.length) l.length xs ∧ Below w.heap.size w wr ∧ Done xs (leavesL l) k) (fun i _ => l.length - (intOf i).toNat)
  case atStart => exact ⟨0, _, Nat.zero_le _, rfl, hown1, HB1.out, Done.zero _ _⟩
  case round =>
    obtain ⟨k, xs, hk, rfl, hown, hbr, hdone⟩ := hrel
    have HD := Lib.hid hdone
    clear hdone hown1
    by_cases hlt : k < l.length
    · obtain ⟨b, o, rfl, hc⟩ := (hS.below hbr) k hlt
      have hlb := World.block_lt_of_cell? wr _ hc
      have hd2 := hd.below hbr
      have hsz : l[k].size ≤ 1000000 := HZ.out _ (List.getElem_mem hlt)
      have HR := Lib.hid (leafS_room l[k] hsz)
      have HX : Hid (xs.length = l.length) := by show _ = _; have := hown.1; omega
      obtain ⟨u, hu⟩ : ∃ u, xs[k]? = some u := ⟨_, List.getElem?_eq_getElem (by rw [HX.out]; exact hlt)⟩
      have HU := Lib.hid hu
      clear hu
      go_wp2_with (go_at_call 16; refine (text_any _ _ hd2 HR.out).mono ?_; rintro e w2 ⟨rfl, hb2⟩; have hown2 := own_below hown hb2; have hcell := (hown2.cellAt k (by omega)).trans HU.out; have hfr := hown2.frozenAt k)
      have HB2 : Hid (Below w.heap.size w _) := (bthen hbr hb2).setCell (p := ⟨w.heap.size, k, none⟩) (Nat.le_refl _) (.string (leafS l[k]))
      have HS := Lib.hid (hown2.stored k (.string (leafS l[k])))
      go_roundw
      case rel => exact ⟨k + 1, _, by omega, by go_num, HS.out.1, HB2.out, HD.out.set (by rw [HX.out]; exact hlt) (fun hl => by simp [leavesL])⟩
      case measure => simp [intOf]; omega
    · have HK : Hid (k = l.length) := by show _ = _; omega
      go_wp2
      go_ret
      refine ⟨⟨some ⟨w.heap.size, 0, none⟩, l.length, by simp [leavesL], Strs.own hown (by simp [leavesL]) (fun j hj => HD.out j hj (by rw [HK.out]; simpa [leavesL] using hj)), fun p h => by cases h; exact Nat.le_refl _⟩, hbr⟩

/-- Element i of the next level. -/
def upAt (l : List ByteArray) (i : Nat) : ByteArray := if _h : 2 * i + 1 < l.length then nodeS (l[2 * i]) (l[2 * i + 1]) else l.getD (2 * i) ByteArray.empty
def upL (l : List ByteArray) : List ByteArray := (List.range ((l.length + 1) / 2)).map (upAt l)
def strV (s : ByteArray) : Value := .string s
/-- The cells of the next level's first k elements. -/
def upCells (l : List ByteArray) (k : Nat) : List Value := (List.range k).map fun i => strV (upAt l i)
theorem upCells_succ (l : List ByteArray) (k : Nat) : upCells l k ++ [strV (upAt l k)] = upCells l (k + 1) := by
  simp [upCells, List.range_succ]
theorem upAt_last (l : List ByteArray) (k m : Nat) (hm : m = 2 * k) (hl : m < l.length) (h : m + 1 = l.length) : upAt l k = l[m] := by
  subst hm
  rw [upAt, dif_neg (by omega), List.getD_eq_getElem?_getD, List.getElem?_eq_getElem hl, Option.getD_some]
theorem upAt_pair (l : List ByteArray) (k m : Nat) (hm : m = 2 * k) (h : m + 1 < l.length) : upAt l k = textS (⟨#[49]⟩ ++ l[m] ++ l[m + 1]) := by
  subst hm
  rw [upAt, dif_pos h]; rfl
theorem nodeS_room (a b : ByteArray) (ha : a.size ≤ 1000000) (hb : b.size ≤ 1000000) : ((⟨#[49]⟩ : ByteArray) ++ a ++ b).size ≤ 9223372036854775807 := by
  simp only [ByteArray.size_append]
  have : (⟨#[49]⟩ : ByteArray).size = 1 := rfl
  omega

set_option maxHeartbeats 1000000 in
theorem up_any (l : List ByteArray) (A : Option Addr) (c : Nat) (w : World) (hd : DigOk w) (hS : Strs w A l) (hl : l.length ≤ 1000000) (hz : ∀ s ∈ l, s.size ≤ 1000000) :
    Calls Tryd.prog 38 #[.slice A l.length c] w fun e w' => RetStrs w.heap.size w' e (upL l) ∧ Below w.heap.size w w' := by
  have HZ := Lib.hid hz
  clear hz
  obtain ⟨i0, hi, hz0, hz1, hz2⟩ := info_parts Tryd.info_s
  go_enter Tryd.func38, Tryd.ntmps38
  go_wp2
  go_loopw [3, 4] (fun v i wr => ∃ k m : Nat, m = 2 * k ∧ m ≤ l.length + 1 ∧ i = .int .i64 m ∧ wr.ownsRow w.heap.size 9 1 v k (upCells l k) ∧ Below w.heap.size w wr) (fun _ i _ => l.length + 2 - (intOf i).toNat)
  case atStart => exact ⟨0, 0, rfl, by omega, rfl, World.ownsRow_nil _ _ _ _, Below.refl _ _⟩
  case round =>
    obtain ⟨k, m, hm, hk, rfl, hown, hbr⟩ := hrel
    have HM := Lib.hid hm
    have hkm : k ≤ 1000000 := by omega
    clear hm
    have hgt := hbr.size
    by_cases hlt : m < l.length
    · obtain ⟨b, o, rfl, hc⟩ := (hS.below hbr) m hlt
      have hlb := World.block_lt_of_cell? wr _ hc
      have hsz : l[m].size ≤ 1000000 := HZ.out _ (List.getElem_mem hlt)
      by_cases he : m + 1 = l.length
      · have HE := Lib.hid he
        have hb : ((m : Int) + 1 == (l.length : Int)) = true := by rw [beq_iff_eq]; omega
        clear he
        go_wp2_with (at_builtin; refine wpList_append_own _ rfl _ _ 35 rfl w.heap.size 9 i0 (.string ByteArray.empty) 1 16 Tryd.underlying35 hi hz0 hz1 hz2 rfl (by decide) _ _ _ rfl (hown.alloc _) ⟨wr.heap.size, 0, none⟩ 1 1 [strV l[m]] rfl rfl (cell_one_new _ _ _) (by intro u hu; simp at hu; subst hu; rfl) (by unfold maxLen; omega) (by omega) (by simp; omega) ?_; intro v' w1 hown1 hg1 _)
        have HB : Hid (Below w.heap.size w w1) := (hbr.alloc hgt _).grown hg1 (by simp; omega) (fun q hq => (hown.lt q hq).1)
        have HO : Hid (w1.ownsRow w.heap.size 9 1 v' (k + 1) (upCells l (k + 1))) := by
          show World.ownsRow _ _ _ _ _ _ _
          rw [← upCells_succ, upAt_last l k m HM.out hlt HE.out]; exact hown1
        clear hown1 hg1
        go_wp2
        go_roundw
        case rel => exact ⟨k + 1, m + 2, by rw [HM.out]; omega, by omega, by go_num, HO.out, HB.out⟩
        case measure => simp [intOf]; omega
      · have hlt2 : m + 1 < l.length := by omega
        have hb : ((m : Int) + 1 == (l.length : Int)) = false := by rw [beq_eq_false_iff_ne]; omega
        have hc2 : wr.cell? ⟨b, o + (m + 1), none⟩ = some (.string l[m + 1]) := by
          obtain ⟨b', o', e, hc2⟩ := (hS.below hbr) (m + 1) hlt2
          injection e with e; injection e with e1 e2; subst e1; subst e2; exact hc2
        clear he
        have hsz2 : l[m + 1].size ≤ 1000000 := HZ.out _ (List.getElem_mem hlt2)
        have hbw : b < w.heap.size := by
          obtain ⟨b', o', e, hcw⟩ := hS m hlt
          injection e with e; injection e with e1 e2; subst e1; exact World.block_lt_of_cell? w _ hcw
        have HR := Lib.hid (nodeS_room l[m] l[m + 1] hsz hsz2)
        have hd2 := (hd.below hbr).drew
        have hown0 := hown.drew
        have s1 : ¬ 9223372036854775807 < 1 + l[m].size := by omega
        have s2 : ¬ 9223372036854775807 < 1 + l[m].size + l[m + 1].size := by omega
        have i1 : (0 : Int) ≤ (m : Int) := by omega
        have i2 : (m : Int) < (l.length : Int) := by omega
        have i3 : (0 : Int) ≤ (m : Int) + 1 := by omega
        have i4 : (m : Int) + 1 < (l.length : Int) := by omega
        have i5 : ((m : Int) + 1).toNat = m + 1 := by omega
        have i6 : IntKind.i64.wrap ((m : Int) + 1) = (m : Int) + 1 := IntWalk.i64_in _ (by omega)
        go_wp2
        have hnb : some b ≠ Value.ownBlock _ := fun h => absurd ((hown.lt b h.symm).1) (by omega)
        go_region_law (first
            | (go_simp; go_at_call 16; refine (text_any _ _ hd2 HR.out).mono ?_; rintro e w2 ⟨rfl, hb2⟩)
            | (refine step_append_lies _ (by rfl) _ _ _ (by rfl) w.heap.size 9 i0 _ 1 16 Tryd.underlying35 hi hz0 hz1 hz2 rfl (by omega) _ k (upCells l k) (by rfl) ((own_below hown0 hb2).alloc _) ⟨w2.heap.size, 0, none⟩ 1 1 [strV (textS (⟨#[49]⟩ ++ l[m] ++ l[m + 1]))] (by rfl) (by rfl) ?_ ?_ (by omega) (by unfold maxLen; omega) (by omega) ?_ (w2.heap.size + 1) ?_ ?_; exact cell_one_new _ _ _; (intro u hu; simp at hu; subst hu; rfl); (have hz2' : wr.heap.size ≤ w2.heap.size := hb2.size; simp; omega); (simp); (intro gg cap w3 hown1 hgrow hat hlt3)))
        all_goals
          have HB : Hid (Below w.heap.size w w3) := (((hbr.drew).trans (hb2.mono hgt)).alloc (by have hz2' : wr.heap.size ≤ w2.heap.size := hb2.size; omega) _).grown hgrow (by have hz2' : wr.heap.size ≤ w2.heap.size := hb2.size; simp; omega) (fun q hq => (hown.lt q hq).1)
          have HO : Hid (w3.ownsRow w.heap.size 9 1 (.slice (some ⟨gg, 0, none⟩) (k + 1) cap) (k + 1) (upCells l (k + 1))) := by
            show World.ownsRow _ _ _ _ _ _ _
            rw [← upCells_succ, upAt_pair l k m HM.out hlt2]; exact hown1
          clear hown1 hgrow
          go_wp2
          go_roundw
          case rel => exact ⟨k + 1, m + 2, by rw [HM.out]; omega, by omega, by go_num, HO.out, HB.out⟩
          case measure => simp [intOf]; omega
    · have HK : Hid (k = (l.length + 1) / 2) := by show _ = _; have := HM.out; omega
      go_wp2
      go_ret
      refine ⟨?_, hbr⟩
      have hlen : (upL l).length = k := by rw [HK.out]; simp [upL]
      exact RetStrs.own hown hlen (fun j hj => by
        have hj' : j < k := by rw [← hlen]; exact hj
        simp [upCells, upL, strV, hj'])
end Go.Proofs.YtnbdlehkadiepaaDoor
