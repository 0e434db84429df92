/- digest.Path and its reference compute pathS. -/
import Derived.Test.YtnbdlehkadiepaaDoorDigRoot
namespace Go.Proofs.YtnbdlehkadiepaaDoor
open Go.RowKit

def sibL (l : List ByteArray) (i : Nat) : List ByteArray := if i % 2 = 1 then [l.getD (i - 1) ByteArray.empty] else if i + 1 < l.length then [l.getD (i + 1) ByteArray.empty] else []
def pathF : Nat → List ByteArray → Nat → List ByteArray
  | 0, _, _ => []
  | f + 1, l, i => if l.length ≤ 1 then [] else sibL l i ++ pathF f (upL l) (i / 2)
def pathIn (l : List ByteArray) (i : Int) : Bool := decide (0 ≤ i ∧ i < l.length)
def pathS (l : List ByteArray) (i : Int) : List ByteArray := if pathIn l i then pathF l.length (leavesL l) i.toNat else []
def pathE (l : List ByteArray) (i : Int) : Int := if pathIn l i then 0 else 27
theorem pathF_step (f : Nat) (l : List ByteArray) (i : Nat) (h : 1 < l.length) (hf : l.length ≤ f) : ∃ f', (upL l).length ≤ f' ∧ pathF f l i = sibL l i ++ pathF f' (upL l) (i / 2) := by
  cases f with
  | zero => omega
  | succ f => exact ⟨f, by rw [upL_length]; omega, by rw [pathF, if_neg (by omega)]⟩
theorem pathF_end (f : Nat) (l : List ByteArray) (i : Nat) (h : l.length ≤ 1) : pathF f l i = [] := by
  cases f with
  | zero => rfl
  | succ f => rw [pathF, if_pos h]
theorem sibL_odd (l : List ByteArray) (j : Nat) (hj : j % 2 = 0) (h : j < l.length) : sibL l (j + 1) = [l[j]] := by
  rw [sibL, if_pos (by omega), Nat.add_sub_cancel, List.getD_eq_getElem?_getD, List.getElem?_eq_getElem h, Option.getD_some]
theorem sibL_even (l : List ByteArray) (i : Nat) (hi : i % 2 = 0) (h : i + 1 < l.length) : sibL l i = [l[i + 1]] := by
  rw [sibL, if_neg (by omega), if_pos h, List.getD_eq_getElem?_getD, List.getElem?_eq_getElem h, Option.getD_some]
theorem sibL_lone (l : List ByteArray) (i : Nat) (hi : i % 2 = 0) (h : ¬ i + 1 < l.length) : sibL l i = [] := by
  rw [sibL, if_neg (by omega), if_neg h]
theorem xor1_nat (i : Nat) : i ^^^ 1 = 2 * (i / 2) + (i + 1) % 2 := by
  have h1 : (i ^^^ 1) % 2 = (i + 1) % 2 := by
    have h := @Nat.xor_mod_two_eq_one i 1
    by_cases hi : i % 2 = 1
    · have : ¬ (i ^^^ 1) % 2 = 1 := by rw [h]; simp [hi]
      omega
    · have : (i ^^^ 1) % 2 = 1 := by rw [h]; simp [hi]
      omega
  have h2 : (i ^^^ 1) / 2 = i / 2 := by rw [Nat.xor_div_two]; simp
  omega
theorem xor1 (i : Nat) (h : i < 1000000000) : bits BinOp.xor IntKind.i64 (i : Int) 1 = ((2 * (i / 2) + (i + 1) % 2 : Nat) : Int) := by
  have h1 : (BitVec.ofInt 64 (i : Int)).toNat = i := by rw [BitVec.ofInt_natCast, BitVec.toNat_ofNat]; exact Nat.mod_eq_of_lt (by omega)
  have h2 : (BitVec.ofInt 64 1).toNat = 1 := by decide
  show IntKind.i64.wrap ((BitVec.ofInt 64 (i : Int) ^^^ BitVec.ofInt 64 1).toNat : Int) = _
  rw [BitVec.toNat_xor, h1, h2, xor1_nat]
  exact IntWalk.i64_in _ (by omega)
theorem xor1_even (i : Nat) (h : i < 1000000000) (hi : i % 2 = 0) : bits BinOp.xor IntKind.i64 (i : Int) 1 = (i : Int) + 1 := by
  rw [xor1 i h]; omega
theorem xor1_odd (j : Nat) (h : j < 1000000) (hj : j % 2 = 0) : bits BinOp.xor IntKind.i64 ((j : Int) + 1) 1 = (j : Int) := by
  have := xor1 (j + 1) (by omega)
  rw [show (((j + 1 : Nat) : Int)) = (j : Int) + 1 by omega] at this
  rw [this]; omega
/-- What a function that hands back a list of strings and a code says. -/
def RetStrs2 (B : Nat) (w' : World) (e : Ending) (l : List ByteArray) (c : Int) : Prop := ∃ A cap, e = .returned (.tuple #[.slice A l.length cap, .int .i64 c]) ∧ Strs w' A l ∧ (∀ p, A = some p → B ≤ p.block) ∧ l.length ≤ cap
theorem RetStrs2.own {w : World} {base e n : Nat} {v : Value} {xs : List Value} {l : List ByteArray} {c : Int} (h : w.ownsRow base e 1 v n xs) (hn : l.length = n)
    (hx : ∀ j, (h : j < l.length) → xs[j]? = some (.string l[j])) : RetStrs2 base w (.returned (.tuple #[v, .int .i64 c])) l c := by
  rcases h.2 with ⟨rfl, rfl⟩ | ⟨g, cap, cur, rfl, hg, _, hnc, _⟩
  · have : l = [] := List.eq_nil_of_length_eq_zero hn
    subst this
    exact ⟨none, 0, rfl, Strs.nil_ _ _, (fun p h => by cases h), Nat.le_refl _⟩
  · subst hn
    exact ⟨_, cap, rfl, Strs.own h rfl hx, (fun p h => by cases h; exact hg), hnc⟩
/-- An append leaves a list alone that does not lie in the row. -/
theorem Strs.far {w w' : World} {A : Option Addr} {l : List ByteArray} {row : Option Nat} (h : Strs w A l) (hg : w.grownBy w' row) (hr : ∀ p g, A = some p → row = some g → p.block ≠ g) : Strs w' A l := by
  intro i hi
  obtain ⟨b, o, e, hc⟩ := h i hi
  refine ⟨b, o, e, ?_⟩
  have hb := World.block_lt_of_cell? w _ hc
  rw [← hc]
  refine World.cell?_of_block (hg.block b hb ?_)
  intro h
  exact hr _ b e h.symm rfl
theorem Strs.alloc {w : World} {A : Option Addr} {l : List ByteArray} (h : Strs w A l) (o : Obj) : Strs (w.alloc o) A l :=
  h.below ((Below.refl _ _).alloc (Nat.le_refl _) o)

def strVs (l : List ByteArray) : List Value := l.map strV
theorem strVs_snoc (l : List ByteArray) (s : ByteArray) : strVs l ++ [strV s] = strVs (l ++ [s]) := by simp [strVs]
theorem strVs_at (l : List ByteArray) : ∀ j, (h : j < l.length) → (strVs l)[j]? = some (.string l[j]) := by
  intro j h
  simp [strVs, strV, h]

set_option maxHeartbeats 1600000 in
theorem path_any (l : List ByteArray) (A : Option Addr) (c : Nat) (i : Int) (w : World) (hd : DigOk w) (hS : Strs w A l) (hl : l.length ≤ 1000000) (hz : ∀ s ∈ l, s.size ≤ 1000000) :
    Calls Tryd.prog 27 #[.slice A l.length c, .int .i64 i] w fun e w' => RetStrs2 w.heap.size w' e (pathS l i) (pathE l i) ∧ Below w.heap.size w w' := by
  by_cases h0 : 0 ≤ i ∧ i < l.length
  · have HP : Hid (pathS l i = pathF l.length (leavesL l) i.toNat) := by show _ = _; rw [pathS, pathIn, if_pos (by simpa using h0)]
    have HE : Hid (pathE l i = 0) := by show _ = _; rw [pathE, pathIn, if_pos (by simpa using h0)]
    obtain ⟨h0, h1⟩ := h0
    obtain ⟨i, rfl⟩ := Int.eq_ofNat_of_zero_le h0
    rw [Int.toNat_natCast] at HP
    have HL := Lib.hid (leaves_any l A c w hd hS hl hz)
    obtain ⟨i0, hi, hz0, hz1, hz2⟩ := info_parts Tryd.info_s
    clear hz hS
    go_enter Tryd.func27, Tryd.ntmps27
    go_wp2_with (go_at_call 37; refine HL.out.mono ?_; rintro e w1 ⟨⟨A1, c1, rfl, hS1, hF1⟩, hb1⟩)
    go_loopw [1, 6, 7] (fun iv v lvv wr => ∃ (j : Nat) (P : List ByteArray) (lv : List ByteArray) (A2 : Option Addr) (c2 f : Nat), iv = .int .i64 (j : Int) ∧ j < lv.length ∧ lvv = .slice A2 lv.length c2 ∧ Strs wr A2 lv ∧ lv.length ≤ 1000000 ∧ P.length + lv.length ≤ 2000000 ∧ (∀ s ∈ lv, s.size ≤ 1000000) ∧ lv.length ≤ f ∧ P ++ pathF f lv j = pathS l (i : Int) ∧ wr.ownsRow w.heap.size 9 1 v P.length (strVs P) ∧ (∀ p g, A2 = some p → v.ownBlock = some g → p.block ≠ g) ∧ Below w.heap.size w wr) (fun _ _ v _ => lenOf v)
    case atStart => exact ⟨i, [], leavesL l, A1, c1, l.length, rfl, by rw [leavesL_length]; omega, rfl, hS1, by rw [leavesL_length]; exact hl, by rw [leavesL_length]; simp; omega, leavesL_sizes l, by rw [leavesL_length]; exact Nat.le_refl _, HP.out.symm, World.ownsRow_nil _ _ _ _, (fun p g _ h => by simp [Value.ownBlock] at h), hb1⟩
    case round =>
      obtain ⟨j, P, lv, A2, c2, f, rfl, hj, rfl, hS2, hl2, hPl, hz2, hf2, hp2, hown, hne, hbr⟩ := hrel
      have hgt := hbr.size
      clear hS1 hF1
      by_cases hlt : 1 < lv.length
      · obtain ⟨f', hf', hp'⟩ := pathF_step f lv j hlt hf2
        have HU := fun (wx : World) (hdx : DigOk wx) (hSx : Strs wx A2 lv) => up_any lv A2 c2 wx hdx hSx hl2 hz2
        have HU := Lib.hid HU
        have HZ := Lib.hid (upL_sizes lv hz2)
        have HN := Lib.hid hne
        clear hz2 hne
        by_cases hpar : j % 2 = 0
        · have HX := Lib.hid (xor1_even j (by omega) hpar)
          by_cases hlt2 : j + 1 < lv.length
          · -- the sibling on the right
            have HPP : Hid ((P ++ [lv[j + 1]]) ++ pathF f' (upL lv) (j / 2) = pathS l (i : Int)) := by
              show _ = _; rw [← hp2, hp', sibL_even lv j hpar hlt2, List.append_assoc]
            have hx := HX.out
            obtain ⟨b, o, rfl, hc⟩ := hS2 (j + 1) hlt2
            have HSN := Lib.hid (strVs_snoc P lv[j + 1])
            clear hp2 hp' hpar
            generalize lv[j + 1] = x at *
            go_wp2_with (first
              | (at_builtin; refine wpList_append_own _ rfl _ _ 35 rfl w.heap.size 9 i0 (.string ByteArray.empty) 1 16 Tryd.underlying35 hi hz0 hz1 hz2 rfl (by decide) _ _ _ rfl (hown.alloc _) ⟨wr.heap.size, 0, none⟩ 1 1 [strV x] rfl rfl (cell_one_new _ _ _) (by intro u hu; simp at hu; subst hu; rfl) (by unfold maxLen; omega) (by omega) (by simp; omega) ?_; intro v' w1 hown1 hg1 _))
            have HB : Hid (Below w.heap.size w w1) := (hbr.alloc hgt _).grown hg1 (by simp; omega) (fun q hq => (hown.lt q hq).1)
            have HO : Hid (w1.ownsRow w.heap.size 9 1 v' (P ++ [x]).length (strVs (P ++ [x]))) := by
              show World.ownsRow _ _ _ _ _ _ _
              rw [← HSN.out, List.length_append]; exact hown1
            refine (HU.out w1 (hd.below HB.out) ((hS2.alloc _).far hg1 HN.out)).mono ?_
            rintro e w3 ⟨⟨A3, c3, rfl, hS3, hF3⟩, hb3⟩
            clear hown1 hg1
            go_wp2
            go_roundw
            case rel => exact ⟨j / 2, P ++ [x], upL lv, A3, c3, f', by go_num, by rw [upL_length]; omega, rfl, hS3, by rw [upL_length]; omega, by rw [upL_length, List.length_append]; simp; omega, HZ.out, hf', HPP.out, own_below HO.out hb3, (fun p g hp hg => by have := hF3 p hp; have := (HO.out.lt g hg).2; omega), bthen HB.out hb3⟩
            case measure => simp only [lenOf, upL_length]; omega
          · -- no sibling
            have HPP : Hid (P ++ pathF f' (upL lv) (j / 2) = pathS l (i : Int)) := by
              show _ = _; rw [← hp2, hp', sibL_lone lv j hpar hlt2, List.nil_append]
            have hx := HX.out
            clear hp2 hp' hpar
            go_wp2_with (go_at_call 38; refine (HU.out wr (hd.below hbr) hS2).mono ?_; rintro e w3 ⟨⟨A3, c3, rfl, hS3, hF3⟩, hb3⟩)
            go_roundw
            case rel => exact ⟨j / 2, P, upL lv, A3, c3, f', by go_num, by rw [upL_length]; omega, rfl, hS3, by rw [upL_length]; omega, by rw [upL_length]; omega, HZ.out, hf', HPP.out, own_below hown hb3, (fun p g hp hg => by have := hF3 p hp; have := (hown.lt g hg).2; omega), bthen hbr hb3⟩
            case measure => simp only [lenOf, upL_length]; omega
        · -- the sibling on the left
          obtain ⟨q, rfl⟩ : ∃ q, j = q + 1 := ⟨j - 1, by omega⟩
          have hq2 : q % 2 = 0 := by omega
          have hq1 : q < lv.length := by omega
          have HX := Lib.hid (xor1_odd q (by omega) hq2)
          have HPP : Hid ((P ++ [lv[q]]) ++ pathF f' (upL lv) ((q + 1) / 2) = pathS l (i : Int)) := by
            show _ = _; rw [← hp2, hp', sibL_odd lv q hq2 hq1, List.append_assoc]
          have hx := HX.out
          obtain ⟨b, o, rfl, hc⟩ := hS2 q hq1
          have HSN := Lib.hid (strVs_snoc P lv[q])
          clear hp2 hp' hpar hq2
          generalize lv[q] = x at *
          go_wp2_with (first
            | (at_builtin; refine wpList_append_own _ rfl _ _ 35 rfl w.heap.size 9 i0 (.string ByteArray.empty) 1 16 Tryd.underlying35 hi hz0 hz1 hz2 rfl (by decide) _ _ _ rfl (hown.alloc _) ⟨wr.heap.size, 0, none⟩ 1 1 [strV x] rfl rfl (cell_one_new _ _ _) (by intro u hu; simp at hu; subst hu; rfl) (by unfold maxLen; omega) (by omega) (by simp; omega) ?_; intro v' w1 hown1 hg1 _))
          have HB : Hid (Below w.heap.size w w1) := (hbr.alloc hgt _).grown hg1 (by simp; omega) (fun q hq => (hown.lt q hq).1)
          have HO : Hid (w1.ownsRow w.heap.size 9 1 v' (P ++ [x]).length (strVs (P ++ [x]))) := by
            show World.ownsRow _ _ _ _ _ _ _
            rw [← HSN.out, List.length_append]; exact hown1
          refine (HU.out w1 (hd.below HB.out) ((hS2.alloc _).far hg1 HN.out)).mono ?_
          rintro e w3 ⟨⟨A3, c3, rfl, hS3, hF3⟩, hb3⟩
          clear hown1 hg1
          go_wp2
          go_roundw
          case rel => exact ⟨(q + 1) / 2, P ++ [x], upL lv, A3, c3, f', by go_num, by rw [upL_length]; omega, rfl, hS3, by rw [upL_length]; omega, by rw [upL_length, List.length_append]; simp; omega, HZ.out, hf', HPP.out, own_below HO.out hb3, (fun p g hp hg => by have := hF3 p hp; have := (HO.out.lt g hg).2; omega), bthen HB.out hb3⟩
          case measure => simp only [lenOf, upL_length]; omega
      · have HQ : Hid (P = pathS l (i : Int)) := by show _ = _; rw [← hp2, pathF_end f lv j (by omega), List.append_nil]
        clear hp2 hz2 hne
        go_wp2
        go_ret2
        rw [HE.out, ← HQ.out]
        exact ⟨RetStrs2.own hown rfl (strVs_at P), hbr⟩
  · have HP : Hid (pathS l i = []) := by show _ = _; rw [pathS, pathIn, if_neg (by simpa using h0)]
    have HE : Hid (pathE l i = 27) := by show _ = _; rw [pathE, pathIn, if_neg (by simpa using h0)]
    have hcs : i < 0 ∨ (0 ≤ i ∧ (l.length : Int) ≤ i) := by omega
    clear hz hS h0
    rcases hcs with h | ⟨h, h'⟩
    all_goals
      go_enter Tryd.func27, Tryd.ntmps27
      go_wp2
      go_ret2
      rw [HE.out, HP.out]
      exact ⟨⟨none, 0, rfl, Strs.nil_ _ _, (fun p h => by cases h), Nat.le_refl _⟩, Below.refl _ _⟩
set_option maxHeartbeats 1600000 in
theorem rpath_any (l : List ByteArray) (A : Option Addr) (c : Nat) (i : Int) (w : World) (hS : Strs w A l) (hl : l.length ≤ 1000000) (hz : ∀ s ∈ l, s.size ≤ 1000000) :
    Calls Tryd.prog 28 #[.slice A l.length c, .int .i64 i] w fun e w' => RetStrs2 w.heap.size w' e (pathS l i) (pathE l i) ∧ Below w.heap.size w w' := by
  by_cases h0 : 0 ≤ i ∧ i < l.length
  · have HP : Hid (pathS l i = pathF l.length (leavesL l) i.toNat) := by show _ = _; rw [pathS, pathIn, if_pos (by simpa using h0)]
    have HE : Hid (pathE l i = 0) := by show _ = _; rw [pathE, pathIn, if_pos (by simpa using h0)]
    obtain ⟨h0, h1⟩ := h0
    obtain ⟨i, rfl⟩ := Int.eq_ofNat_of_zero_le h0
    rw [Int.toNat_natCast] at HP
    have HL := Lib.hid (rleaves_any l A c w hS hl hz)
    obtain ⟨i0, hi, hz0, hz1, hz2⟩ := info_parts Tryd.info_s
    clear hz hS
    go_enter Tryd.func28, Tryd.ntmps28
    go_wp2_with (go_at_call 39; refine HL.out.mono ?_; rintro e w1 ⟨⟨A1, c1, rfl, hS1, hF1⟩, hb1⟩)
    go_loopw [1, 6, 7] (fun iv v lvv wr => ∃ (j : Nat) (P : List ByteArray) (lv : List ByteArray) (A2 : Option Addr) (c2 f : Nat), iv = .int .i64 (j : Int) ∧ j < lv.length ∧ lvv = .slice A2 lv.length c2 ∧ Strs wr A2 lv ∧ lv.length ≤ 1000000 ∧ P.length + lv.length ≤ 2000000 ∧ (∀ s ∈ lv, s.size ≤ 1000000) ∧ lv.length ≤ f ∧ P ++ pathF f lv j = pathS l (i : Int) ∧ wr.ownsRow w.heap.size 9 1 v P.length (strVs P) ∧ (∀ p g, A2 = some p → v.ownBlock = some g → p.block ≠ g) ∧ Below w.heap.size w wr) (fun _ _ v _ => lenOf v)
    case atStart => exact ⟨i, [], leavesL l, A1, c1, l.length, rfl, by rw [leavesL_length]; omega, rfl, hS1, by rw [leavesL_length]; exact hl, by rw [leavesL_length]; simp; omega, leavesL_sizes l, by rw [leavesL_length]; exact Nat.le_refl _, HP.out.symm, World.ownsRow_nil _ _ _ _, (fun p g _ h => by simp [Value.ownBlock] at h), hb1⟩
    case round =>
      obtain ⟨j, P, lv, A2, c2, f, rfl, hj, rfl, hS2, hl2, hPl, hz2, hf2, hp2, hown, hne, hbr⟩ := hrel
      have hgt := hbr.size
      clear hS1 hF1
      by_cases hlt : 1 < lv.length
      · obtain ⟨f', hf', hp'⟩ := pathF_step f lv j hlt hf2
        have HU := fun (wx : World) (hSx : Strs wx A2 lv) => rup_any lv A2 c2 wx hSx hl2 hz2
        have HU := Lib.hid HU
        have HZ := Lib.hid (upL_sizes lv hz2)
        have HN := Lib.hid hne
        clear hz2 hne
        by_cases hpar : j % 2 = 0
        · have hpb : (((j : Int) % 2) == 1) = false := by rw [beq_eq_false_iff_ne]; omega
          by_cases hlt2 : j + 1 < lv.length
          · -- the sibling on the right
            have HPP : Hid ((P ++ [lv[j + 1]]) ++ pathF f' (upL lv) (j / 2) = pathS l (i : Int)) := by
              show _ = _; rw [← hp2, hp', sibL_even lv j hpar hlt2, List.append_assoc]
            obtain ⟨b, o, rfl, hc⟩ := hS2 (j + 1) hlt2
            have HSN := Lib.hid (strVs_snoc P lv[j + 1])
            clear hp2 hp' hpar
            generalize lv[j + 1] = x at *
            go_wp2_with (first
              | (at_builtin; refine wpList_append_own _ rfl _ _ 35 rfl w.heap.size 9 i0 (.string ByteArray.empty) 1 16 Tryd.underlying35 hi hz0 hz1 hz2 rfl (by decide) _ _ _ rfl (hown.alloc _) ⟨wr.heap.size, 0, none⟩ 1 1 [strV x] rfl rfl (cell_one_new _ _ _) (by intro u hu; simp at hu; subst hu; rfl) (by unfold maxLen; omega) (by omega) (by simp; omega) ?_; intro v' w1 hown1 hg1 _))
            have HB : Hid (Below w.heap.size w w1) := (hbr.alloc hgt _).grown hg1 (by simp; omega) (fun q hq => (hown.lt q hq).1)
            have HO : Hid (w1.ownsRow w.heap.size 9 1 v' (P ++ [x]).length (strVs (P ++ [x]))) := by
              show World.ownsRow _ _ _ _ _ _ _
              rw [← HSN.out, List.length_append]; exact hown1
            refine (HU.out w1 ((hS2.alloc _).far hg1 HN.out)).mono ?_
            rintro e w3 ⟨⟨A3, c3, rfl, hS3, hF3⟩, hb3⟩
            clear hown1 hg1
            go_wp2
            go_roundw
            case rel => exact ⟨j / 2, P ++ [x], upL lv, A3, c3, f', by go_num, by rw [upL_length]; omega, rfl, hS3, by rw [upL_length]; omega, by rw [upL_length, List.length_append]; simp; omega, HZ.out, hf', HPP.out, own_below HO.out hb3, (fun p g hp hg => by have := hF3 p hp; have := (HO.out.lt g hg).2; omega), bthen HB.out hb3⟩
            case measure => simp only [lenOf, upL_length]; omega
          · -- no sibling
            have HPP : Hid (P ++ pathF f' (upL lv) (j / 2) = pathS l (i : Int)) := by
              show _ = _; rw [← hp2, hp', sibL_lone lv j hpar hlt2, List.nil_append]
            clear hp2 hp' hpar
            go_wp2_with (go_at_call 40; refine (HU.out wr hS2).mono ?_; rintro e w3 ⟨⟨A3, c3, rfl, hS3, hF3⟩, hb3⟩)
            go_roundw
            case rel => exact ⟨j / 2, P, upL lv, A3, c3, f', by go_num, by rw [upL_length]; omega, rfl, hS3, by rw [upL_length]; omega, by rw [upL_length]; omega, HZ.out, hf', HPP.out, own_below hown hb3, (fun p g hp hg => by have := hF3 p hp; have := (hown.lt g hg).2; omega), bthen hbr hb3⟩
            case measure => simp only [lenOf, upL_length]; omega
        · -- the sibling on the left
          obtain ⟨q, rfl⟩ : ∃ q, j = q + 1 := ⟨j - 1, by omega⟩
          have hq2 : q % 2 = 0 := by omega
          have hq1 : q < lv.length := by omega
          have hpb : (((q : Int) + 1) % 2 == 1) = true := by rw [beq_iff_eq]; omega
          have HPP : Hid ((P ++ [lv[q]]) ++ pathF f' (upL lv) ((q + 1) / 2) = pathS l (i : Int)) := by
            show _ = _; rw [← hp2, hp', sibL_odd lv q hq2 hq1, List.append_assoc]
          obtain ⟨b, o, rfl, hc⟩ := hS2 q hq1
          have HSN := Lib.hid (strVs_snoc P lv[q])
          clear hp2 hp' hpar hq2
          generalize lv[q] = x at *
          go_wp2_with (first
            | (at_builtin; refine wpList_append_own _ rfl _ _ 35 rfl w.heap.size 9 i0 (.string ByteArray.empty) 1 16 Tryd.underlying35 hi hz0 hz1 hz2 rfl (by decide) _ _ _ rfl (hown.alloc _) ⟨wr.heap.size, 0, none⟩ 1 1 [strV x] rfl rfl (cell_one_new _ _ _) (by intro u hu; simp at hu; subst hu; rfl) (by unfold maxLen; omega) (by omega) (by simp; omega) ?_; intro v' w1 hown1 hg1 _))
          have HB : Hid (Below w.heap.size w w1) := (hbr.alloc hgt _).grown hg1 (by simp; omega) (fun q hq => (hown.lt q hq).1)
          have HO : Hid (w1.ownsRow w.heap.size 9 1 v' (P ++ [x]).length (strVs (P ++ [x]))) := by
            show World.ownsRow _ _ _ _ _ _ _
            rw [← HSN.out, List.length_append]; exact hown1
          refine (HU.out w1 ((hS2.alloc _).far hg1 HN.out)).mono ?_
          rintro e w3 ⟨⟨A3, c3, rfl, hS3, hF3⟩, hb3⟩
          clear hown1 hg1
          go_wp2
          go_roundw
          case rel => exact ⟨(q + 1) / 2, P ++ [x], upL lv, A3, c3, f', by go_num, by rw [upL_length]; omega, rfl, hS3, by rw [upL_length]; omega, by rw [upL_length, List.length_append]; simp; omega, HZ.out, hf', HPP.out, own_below HO.out hb3, (fun p g hp hg => by have := hF3 p hp; have := (HO.out.lt g hg).2; omega), bthen HB.out hb3⟩
          case measure => simp only [lenOf, upL_length]; omega
      · have HQ : Hid (P = pathS l (i : Int)) := by show _ = _; rw [← hp2, pathF_end f lv j (by omega), List.append_nil]
        clear hp2 hz2 hne
        go_wp2
        go_ret2
        rw [HE.out, ← HQ.out]
        exact ⟨RetStrs2.own hown rfl (strVs_at P), hbr⟩
  · have HP : Hid (pathS l i = []) := by show _ = _; rw [pathS, pathIn, if_neg (by simpa using h0)]
    have HE : Hid (pathE l i = 27) := by show _ = _; rw [pathE, pathIn, if_neg (by simpa using h0)]
    have hcs : i < 0 ∨ (0 ≤ i ∧ (l.length : Int) ≤ i) := by omega
    clear hz hS h0
    rcases hcs with h | ⟨h, h'⟩
    all_goals
      go_enter Tryd.func28, Tryd.ntmps28
      go_wp2
      go_ret2
      rw [HE.out, HP.out]
      exact ⟨⟨none, 0, rfl, Strs.nil_ _ _, (fun p h => by cases h), Nat.le_refl _⟩, Below.refl _ _⟩
end Go.Proofs.YtnbdlehkadiepaaDoor
