/- Joined: CodSJoin, CodBetween, CodJoin, CodRJoin, CodSplit, CodLen0, CodDec, ItoaLaws, CodRefInt, CodIntP, ClmEncP, ClmOps, ClmLineW. -/
import Derived.Test.YtiiioefjdebggaaGreatDoorSeg3
import Derived.Test.YtiiioefjdebggaaGreatDoorSeg1
import Derived.Test.YtiiioefjdebggaaGreatDoorSeg2
import Derived.Deep.AppendLies
import Derived.WalkKit
import Derived.Lib.ItoaMem
import Derived.Lib.ItoaNum
import Derived.Laws.IdiomStrings
import Derived.Laws.BitsAllLaws
import Derived.Lib.AtoiAllCases
import Derived.Laws.Rows
import Derived.Laws.Tables
import Derived.Laws.ResultCell
import Derived.Laws.NewBlocks
/- strings.Join with a separator of one byte. -/
namespace Go.Proofs.YtiiioefjdebggaaGreatDoor
open Go.RowKit

theorem div_big (n : Nat) (h : n ≤ 1000000) (h2 : 2 ≤ n) : ¬ 9223372036854775807 / ((n : Int) - 1) ≤ 1 := by
  have h1 : 0 < (n : Int) - 1 := by omega
  have : 2 ≤ 9223372036854775807 / ((n : Int) - 1) := (Int.le_ediv_iff_mul_le h1).2 (by omega)
  omega
set_option maxHeartbeats 2000000 in
set_option maxRecDepth 100000 in
theorem sjoin_any (l : List ByteArray) (c : UInt8) (A : Option Addr) (cap : Nat) (w : World) (hS : Strs w A l) (hl : l.length ≤ 1000000) (hcap : l.length ≤ cap) (hz : ∀ s ∈ l, s.size ≤ 1000000) :
    Calls Tryz.prog 152 #[.slice A l.length cap, .string ⟨#[c]⟩] w fun e w' => e = .returned (.string (joinC c l)) ∧ Below w.heap.size w w' := by
  go_enter Tryz.func152, Tryz.ntmps152
  by_cases h0 : l.length = 0
  · have he : l = [] := List.eq_nil_of_length_eq_zero h0
    subst he
    have HJ := Lib.hid (joinC_nil c)
    go_wp2_with fail
    go_ret
    exact ⟨ret_str HJ.out.symm, Below.refl _ _⟩
  · by_cases h1 : l.length = 1
    · have hlt : 0 < l.length := by omega
      obtain ⟨b, o, rfl, hcell⟩ := hS 0 hlt
      have hc0 : w.cell? ⟨b, o, none⟩ = some (.string l[0]) := by simpa using hcell
      have HJ : Hid (joinC c l = l[0]) := by
        show _ = _
        match l, h1 with
        | [s], _ => exact joinC_one c s
      have hb0 : ((l.length : Int) == 0) = false := by rw [beq_eq_false_iff_ne]; omega
      have hb1 : ((l.length : Int) == 1) = true := by rw [beq_iff_eq]; omega
      clear hcell h0 h1
      go_wp2_with fail
      go_ret
      exact ⟨ret_str HJ.out.symm, Below.refl _ _⟩
    · have hb0 : ((l.length : Int) == 0) = false := by rw [beq_eq_false_iff_ne]; omega
      have hb1 : ((l.length : Int) == 1) = false := by rw [beq_eq_false_iff_ne]; omega
      have hn2 : 2 ≤ l.length := by omega
      have hdv := div_big l.length hl hn2
      clear h0 h1
      go_wp2_with fail
      go_loop [5, 7, 41] (fun n _ j => ∃ k m : Nat, k ≤ l.length ∧ j = .int .i64 k ∧ n = .int .i64 m ∧ m ≤ 1000000 + k * 1000000) (fun _ _ i => l.length - (intOf i).toNat)
      case atStart => exact ⟨0, l.length - 1, Nat.zero_le _, rfl, by rw [Int.ofNat_sub (by omega)]; rfl, by omega⟩
      case round =>
        obtain ⟨k, m, hk, rfl, rfl, hm⟩ := hrel
        by_cases hlt : k < l.length
        · obtain ⟨b, o, rfl, hcell⟩ := hS k hlt
          have hsz : l[k].size ≤ 1000000 := hz _ (List.getElem_mem hlt)
          go_wp2_with fail
          go_round
          case rel => exact ⟨k + 1, m + l[k].size, hlt, by go_num, by go_num, by omega⟩
          case measure => simp [intOf]; omega
        · have hm2 : m ≤ 281474976710656 := by omega
          obtain ⟨b, o, rfl, hcell⟩ := hS 0 (by omega)
          have hlt0 : 0 < l.length := by omega
          have hsz : l[0].size ≤ 1000000 := hz _ (List.getElem_mem hlt0)
          have hc0 : w.cell? ⟨b, o, none⟩ = some (.string l[0]) := by simpa using hcell
          have hB0 : (w.alloc (.cells #[.pointer none, .slice none 0 0] 118)).heap[w.heap.size]? = some (.cells #[.pointer none, .slice none 0 0] 118 (0, 0)) := heap_alloc_new w _
          have hbw : Below w.heap.size w (w.alloc (.cells #[.pointer none, .slice none 0 0] 118)) := (Below.refl _ _).alloc (Nat.le_refl _) _
          clear hcell hk hm
          go_wp2_with fail
          refine (Tryz.Builder_Grow_fresh w.heap.size w.heap.size m _ (Nat.le_refl _) hB0 hbw.size hm2).mono ?_
          rintro e w1 ⟨rfl, hB1, hb1⟩
          have hbr1 := hbw.trans hb1
          have hc1 : w1.cell? ⟨b, o, none⟩ = some (.string l[0]) := by rw [(bcell hbr1).1 b o (World.block_lt_of_cell? w _ hc0)]; exact hc0
          go_wp2_with fail
          refine (writeString_any _ _ [] l[0] _ (.inr hB1) (by simp; omega) hbr1.size).mono ?_
          rintro e w2 ⟨rfl, hB2, hb2⟩
          have hbr2 := hbr1.trans hb2
          have hB2' : Bld w.heap.size w.heap.size (joinC c (l.take 1)).data.toList w2 := by
            rw [take_one l hlt0, joinC_one]; exact hB2
          clear hB2 hB1 hc1
          go_wp2_with fail
          go_loopw [10, 65] (fun _ j wr => ∃ k : Nat, k + 1 ≤ l.length ∧ j = .int .i64 k ∧ Bld w.heap.size w.heap.size (joinC c (l.take (k + 1))).data.toList wr ∧ Below w.heap.size w wr) (fun _ i _ => l.length - (intOf i).toNat)
          case atStart => exact ⟨0, hlt0, rfl, hB2', hbr2⟩
          case round =>
            obtain ⟨k, hk, rfl, hB3, hbr⟩ := hrel
            have hjs := joinC_size c l 1000000 hz (k + 1) hk
            have hj2 : (joinC c (l.take (k + 1))).size ≤ 1000001000000 := by
              refine Nat.le_trans hjs ?_
              have : (k + 1) * 1000001 ≤ 1000000 * 1000001 := Nat.mul_le_mul_right _ (by omega)
              omega
            have hj3 : (joinC c (l.take (k + 1))).data.toList.length ≤ 1000001000000 := by
              have : (joinC c (l.take (k + 1))).data.toList.length = (joinC c (l.take (k + 1))).size := by simp
              omega
            clear hjs hj2
            by_cases hlt : k + 1 < l.length
            · have HJ := Lib.hid (joinC_snoc c l (k + 1) (by omega) hlt)
              have hsz1 : l[k + 1].size ≤ 1000000 := hz _ (List.getElem_mem hlt)
              have hck : wr.cell? ⟨b, o + 1 + k, none⟩ = some (.string l[k + 1]) := by
                obtain ⟨b', o', e, hck⟩ := (hS.below hbr) (k + 1) hlt
                injection e with e; injection e with e1 e2; subst e1; subst e2
                rw [show o + 1 + k = o + (k + 1) by omega]; exact hck
              have hlt' : (k : Int) < (l.length : Int) - 1 := by omega
              go_wp2_with fail
              refine (writeString_any _ _ _ _ _ hB3 (by have : (⟨#[c]⟩ : ByteArray).size = 1 := rfl; omega) hbr.size).mono ?_
              rintro e w3 ⟨rfl, hB4, hb4⟩
              have hbr4 := hbr.trans hb4
              go_wp2_with fail
              refine (writeString_any _ _ _ _ _ hB4 (by rw [List.length_append]; simp only [List.length_cons, List.length_nil]; omega) hbr4.size).mono ?_
              rintro e w4 ⟨rfl, hB5, hb5⟩
              go_wp2_with fail
              go_roundw
              case rel =>
                refine ⟨k + 1, hlt, by go_num, ?_, hbr4.trans hb5⟩
                rw [HJ.out]
                simpa using hB5
              case measure => simp [intOf]; omega
            · have HE := Lib.hid (joinC_all c l (k + 1) hlt)
              have hlt' : ¬ (k : Int) < (l.length : Int) - 1 := by omega
              go_wp2_with fail
              refine (bldString_any _ _ _ _ hB3 hbr.size).mono ?_
              rintro e w3 ⟨rfl, hb4⟩
              go_wp2_with fail
              go_ret
              exact ⟨ret_str (by rw [HE.out]), hbr.trans hb4⟩
end Go.Proofs.YtiiioefjdebggaaGreatDoor

/- identityref02.Between. -/
namespace Go.Proofs.YtiiioefjdebggaaGreatDoor
open Go.RowKit

theorem empty_app (s : ByteArray) : (⟨#[]⟩ : ByteArray) ++ s = s := by apply ByteArray.ext; simp
set_option maxHeartbeats 1000000 in
theorem between_any (l : List ByteArray) (c : UInt8) (A : Option Addr) (cap : Nat) (w : World) (hS : Strs w A l) (hl : l.length ≤ 1000000) (hz : ∀ s ∈ l, s.size ≤ 1000000) :
    Calls Tryz.prog 154 #[.slice A l.length cap, .string ⟨#[c]⟩] w fun e w' => e = .returned (.string (joinC c l)) ∧ Below w.heap.size w w' := by
  go_enter Tryz.func154, Tryz.ntmps154
  go_wp2_with fail
  go_loopw [5, 6] (fun o i wr => ∃ k : Nat, k ≤ l.length ∧ i = .int .i64 k ∧ o = .string (joinC c (l.take k)) ∧ Below w.heap.size w wr) (fun _ i _ => l.length - (intOf i).toNat)
  case atStart => exact ⟨0, Nat.zero_le _, rfl, by rw [joinC_zero], Below.refl _ _⟩
  case round =>
    obtain ⟨k, hk, rfl, rfl, hbr⟩ := hrel
    by_cases hlt : k < l.length
    · obtain ⟨b, o, rfl, hcell⟩ := (hS.below hbr) k hlt
      have hsz : l[k].size ≤ 1000000 := hz _ (List.getElem_mem hlt)
      have hjs := joinC_size c l 1000000 hz k hk
      have hj2 : (joinC c (l.take k)).size ≤ 1000001000000 := by
        refine Nat.le_trans hjs ?_
        have : k * 1000001 ≤ 1000000 * 1000001 := Nat.mul_le_mul_right _ (by omega)
        omega
      by_cases h0 : k = 0
      · subst h0
        have HJ := Lib.hid (joinC_zero c l)
        have HJ1 : Hid (joinC c (l.take 1) = ⟨#[]⟩ ++ l[0]) := by show _ = _; rw [take_one l hlt, joinC_one, empty_app]
        rw [HJ.out]
        clear hjs hj2
        have hc0 : wr.cell? ⟨b, o, none⟩ = some (.string l[0]) := by simpa using hcell
        have s0 : ¬ 9223372036854775807 < l[0].size := by omega
        clear hcell
        go_wp2_with fail
        go_roundw
        case rel => exact ⟨1, hlt, rfl, by rw [HJ1.out], hbr⟩
        case measure => simp [intOf]; omega
      · have HJ := Lib.hid (joinC_snoc c l k (by omega) hlt)
        generalize joinC c (l.take k) = pre at *
        have s1 : ¬ 9223372036854775807 < pre.size + 1 := by omega
        have s2 : ¬ 9223372036854775807 < pre.size + 1 + l[k].size := by omega
        clear hjs
        go_wp2_with fail
        go_roundw
        case rel => exact ⟨k + 1, hlt, by go_num, by rw [HJ.out], hbr⟩
        case measure => simp [intOf]; omega
    · have HE := Lib.hid (joinC_all c l k hlt)
      go_wp2_with fail
      go_ret
      exact ⟨ret_str HE.out, hbr⟩
end Go.Proofs.YtiiioefjdebggaaGreatDoor

/- codec.Join and its reference compute joinS. -/
namespace Go.Proofs.YtiiioefjdebggaaGreatDoor
open Go.RowKit

theorem joinS_nil : joinS [] = ⟨#[45]⟩ := rfl
theorem joinS_dash : joinS [⟨#[45]⟩] = ⟨#[37, 50, 68]⟩ := by decide +kernel
theorem map_esc (l : List ByteArray) : (l.map escS).map (·.data.toList) = (l.map (·.data.toList)).map escL := by
  induction l with
  | nil => rfl
  | cons a l ih => simp only [List.map_cons, ih]; rfl
theorem joinS_else (l : List ByteArray) (h0 : l ≠ []) (h1 : l ≠ [⟨#[45]⟩]) : joinS l = joinC 124 (l.map escS) := by
  have e0 : ¬ l.map (·.data.toList) = [] := by simpa using h0
  have e1 : ¬ l.map (·.data.toList) = [[45]] := by
    intro e
    apply h1
    have := congrArg (List.map bsOf) e
    rw [map_bsOf] at this
    exact this
  rw [joinS, joinE, if_neg e0, if_neg e1, joinC, map_esc]
theorem escS_map (l : List ByteArray) (hz : ∀ s ∈ l, s.size ≤ 300000) : ∀ s ∈ l.map escS, s.size ≤ 1000000 := by
  intro s hs
  rw [List.mem_map] at hs
  obtain ⟨t, ht, rfl⟩ := hs
  have := escS_size t
  have := hz t ht
  omega
theorem dash_ne {s : ByteArray} (h : s ≠ ⟨#[45]⟩) : (s.toList == (⟨#[45]⟩ : ByteArray).toList) = false := str_ne h
theorem dash_list : (⟨#[45]⟩ : ByteArray).toList = [45] := by rw [Lib.toList_data]
theorem dash_ne' {s : ByteArray} (h : s ≠ ⟨#[45]⟩) : (s.toList == [45]) = false := by have := str_ne h; rwa [dash_list] at this
theorem one_of {l : List ByteArray} (h : l.length = 1) (h0 : 0 < l.length) : l = [l[0]] := by
  match l, h with
  | [s], _ => rfl

set_option maxHeartbeats 4000000 in
set_option maxRecDepth 100000 in
theorem cjoin_any (l : List ByteArray) (A : Option Addr) (cap : Nat) (w : World) (hS : Strs w A l) (hl : l.length ≤ 1000000) (hz : ∀ s ∈ l, s.size ≤ 300000) :
    Calls Tryz.prog 128 #[.slice A l.length cap] w fun e w' => e = .returned (.string (joinS l)) ∧ Below w.heap.size w w' := by
  have HZ := Lib.hid hz
  clear hz
  obtain ⟨i0, hi, hz0, hz1, hz2⟩ := info_parts Tryz.info_s
  go_enter Tryz.func128, Tryz.ntmps128
  by_cases h0 : l.length = 0
  · have he : l = [] := List.eq_nil_of_length_eq_zero h0
    subst he
    have HJ := Lib.hid joinS_nil
    go_wp2_with fail
    go_ret
    exact ⟨ret_str HJ.out.symm, Below.refl _ _⟩
  · have hlt0 : 0 < l.length := by omega
    have hb0 : ((l.length : Int) == 0) = false := by rw [beq_eq_false_iff_ne]; omega
    obtain ⟨b, o, rfl, hcell⟩ := hS 0 hlt0
    have hc0 : w.cell? ⟨b, o, none⟩ = some (.string l[0]) := by simpa using hcell
    have hcs : (l.length = 1 ∧ l[0] = ⟨#[45]⟩) ∨ (l.length = 1 ∧ l[0] ≠ ⟨#[45]⟩) ∨ l.length ≠ 1 := by
      by_cases h1 : l.length = 1
      · by_cases h2 : l[0] = ⟨#[45]⟩
        · exact .inl ⟨h1, h2⟩
        · exact .inr (.inl ⟨h1, h2⟩)
      · exact .inr (.inr h1)
    clear hcell h0
    rcases hcs with ⟨h1, h2⟩ | hcs
    · have HJ : Hid (joinS l = ⟨#[37, 50, 68]⟩) := by
        show _ = _
        rw [one_of h1 hlt0, h2]; exact joinS_dash
      have hb1 : ((l.length : Int) == 1) = true := by rw [beq_iff_eq]; omega
      rw [h2] at hc0
      clear h1 h2
      go_wp2_with fail
      go_ret
      exact ⟨ret_str HJ.out.symm, Below.refl _ _⟩
    · have HJ : Hid (joinS l = joinC 124 (l.map escS)) := Lib.hid (joinS_else l (by intro e; rw [e] at hlt0; exact absurd hlt0 (by simp)) (by
        intro e
        rcases hcs with ⟨_, h2⟩ | h1
        · exact h2 (by simp [e])
        · exact h1 (by simp [e])))
      obtain ⟨x0, hx0⟩ : ∃ x0, l[0] = x0 := ⟨_, rfl⟩
      rw [hx0] at hcs hc0
      have HX0 := Lib.hid hx0
      clear hx0
      have hcs2 : (((l.length : Int) == 1) = true ∧ (x0.toList == [45]) = false) ∨ ((l.length : Int) == 1) = false := by
        rcases hcs with ⟨h1, h2⟩ | h1
        · exact .inl ⟨by rw [beq_iff_eq]; omega, dash_ne' h2⟩
        · exact .inr (by rw [beq_eq_false_iff_ne]; omega)
      clear hcs
      rcases hcs2 with ⟨hb1, hsd⟩ | hb1
      all_goals
        go_wp2_with (at_make; refine wpList_make_full _ rfl _ _ 23 rfl w.heap.size 9 i0 (.string ByteArray.empty) 1 Tryz.underlying23 hi hz0 hz1 .i64 .i64 _ _ l.length rfl rfl rfl rfl (by rw [hz2]; omega) (by unfold maxLen; omega) (Nat.le_refl _) ?_; intro w1 hown1 hg1)
        have HB1 := Lib.hid ((Below.refl w.heap.size w).grown hg1 (Nat.le_refl _) (by intro k hk; cases hk))
        clear hg1
        go_wp2_with fail
        go_loopw [4, 22] (fun _ i wr => ∃ k : Nat, ∃ xs : List Value, k ≤ l.length ∧ i = .int .i64 k ∧ wr.ownsRow w.heap.size 9 1 (.slice (some ⟨w.heap.size, 0, none⟩) l.length l.length) l.length xs ∧ Below w.heap.size w wr ∧ Done xs (l.map escS) k) (fun _ i _ => l.length - (intOf i).toNat)
        case atStart => exact ⟨0, _, Nat.zero_le _, rfl, hown1, HB1.out, Done.zero _ _⟩
        case round =>
          obtain ⟨k, xs, hk, rfl, hown, hbr, hdone⟩ := hrel
          have HD := Lib.hid hdone
          clear hdone hown1 hc0
          by_cases hlt : k < l.length
          · obtain ⟨b', o', e, hc⟩ := (hS.below hbr) k hlt
            injection e with e; injection e with e1 e2; subst e1; subst e2
            have hlb := World.block_lt_of_cell? wr _ hc
            have hsz : l[k].size ≤ 300000 := HZ.out _ (List.getElem_mem hlt)
            have HX : Hid (xs.length = l.length) := by show _ = _; have := hown.1; omega
            obtain ⟨u, hu⟩ : ∃ u, xs[k]? = some u := ⟨_, List.getElem?_eq_getElem (by rw [HX.out]; exact hlt)⟩
            have HU := Lib.hid hu
            clear hu
            go_wp2_with fail
            refine (esc_any _ _ (by omega)).mono ?_
            rintro e w2 ⟨rfl, hb2⟩
            have hown2 := own_below hown hb2
            have hcell := (hown2.cellAt k (by omega)).trans HU.out
            have hfr := hown2.frozenAt k
            go_wp2_with fail
            have HB2 : Hid (Below w.heap.size w _) := (bthen hbr hb2).setCell (p := ⟨w.heap.size, k, none⟩) (Nat.le_refl _) (.string (escS l[k]))
            have HS := Lib.hid (hown2.stored k (.string (escS l[k])))
            go_roundw
            case rel => exact ⟨k + 1, _, by omega, by go_num, HS.out.1, HB2.out, HD.out.set (by rw [HX.out]; exact hlt) (fun hl => by simp)⟩
            case measure => simp [intOf]; omega
          · have HK : Hid (k = l.length) := by show _ = _; omega
            have HO : Hid (Strs wr (some ⟨w.heap.size, 0, none⟩) (l.map escS)) := Lib.hid (Strs.own hown (by simp) (fun j hj => HD.out j hj (by rw [HK.out]; simpa using hj)))
            have hj := sjoin_any (l.map escS) 124 (some ⟨w.heap.size, 0, none⟩) l.length wr HO.out (by simpa using hl) (by simp) (escS_map l HZ.out)
            rw [List.length_map] at hj
            go_wp2_with fail
            refine hj.mono ?_
            rintro e w3 ⟨rfl, hb3⟩
            go_wp2_with fail
            go_ret
            exact ⟨ret_str HJ.out.symm, bthen hbr hb3⟩
end Go.Proofs.YtiiioefjdebggaaGreatDoor

/- identityref02.Join computes joinS. -/
namespace Go.Proofs.YtiiioefjdebggaaGreatDoor
open Go.RowKit

theorem esc_snoc (l : List ByteArray) (k : Nat) (h : k < l.length) : strVs ((l.take k).map escS) ++ [strV (escS l[k])] = strVs ((l.take (k + 1)).map escS) := by
  rw [strVs_snoc, List.take_succ_eq_append_getElem h, List.map_append]; rfl

/-- An own row of strings, read as a list. -/
theorem own_strs {w : World} {base e n : Nat} {v : Value} {xs : List Value} {l : List ByteArray} (h : w.ownsRow base e 1 v n xs) (hn : l.length = n)
    (hx : ∀ j, (h : j < l.length) → xs[j]? = some (.string l[j])) : ∃ A cap, v = .slice A l.length cap ∧ Strs w A l ∧ l.length ≤ cap := by
  rcases h.2 with ⟨rfl, rfl⟩ | ⟨g, cap, cur, rfl, hg, _, hnc, _⟩
  · have : l = [] := List.eq_nil_of_length_eq_zero hn
    subst this
    exact ⟨none, 0, rfl, Strs.nil_ _ _, Nat.le_refl _⟩
  · subst hn
    exact ⟨_, cap, rfl, Strs.own h rfl hx, hnc⟩

set_option maxHeartbeats 4000000 in
set_option maxRecDepth 100000 in
theorem rjoin_any (l : List ByteArray) (A : Option Addr) (cap : Nat) (w : World) (hS : Strs w A l) (hl : l.length ≤ 1000000) (hz : ∀ s ∈ l, s.size ≤ 300000) :
    Calls Tryz.prog 131 #[.slice A l.length cap] w fun e w' => e = .returned (.string (joinS l)) ∧ Below w.heap.size w w' := by
  have HZ := Lib.hid hz
  clear hz
  obtain ⟨i0, hi, hz0, hz1, hz2⟩ := info_parts Tryz.info_s
  go_enter Tryz.func131, Tryz.ntmps131
  by_cases h0 : l.length = 0
  · have he : l = [] := List.eq_nil_of_length_eq_zero h0
    subst he
    have HJ := Lib.hid joinS_nil
    go_wp2_with fail
    go_ret
    exact ⟨ret_str HJ.out.symm, Below.refl _ _⟩
  · have hlt0 : 0 < l.length := by omega
    have hb0 : ((l.length : Int) == 0) = false := by rw [beq_eq_false_iff_ne]; omega
    obtain ⟨b, o, rfl, hcell⟩ := hS 0 hlt0
    have hc0 : w.cell? ⟨b, o, none⟩ = some (.string l[0]) := by simpa using hcell
    have hcs : (l.length = 1 ∧ l[0] = ⟨#[45]⟩) ∨ (l.length = 1 ∧ l[0] ≠ ⟨#[45]⟩) ∨ l.length ≠ 1 := by
      by_cases h1 : l.length = 1
      · by_cases h2 : l[0] = ⟨#[45]⟩
        · exact .inl ⟨h1, h2⟩
        · exact .inr (.inl ⟨h1, h2⟩)
      · exact .inr (.inr h1)
    clear hcell h0
    rcases hcs with ⟨h1, h2⟩ | hcs
    · have HJ : Hid (joinS l = ⟨#[37, 50, 68]⟩) := by
        show _ = _
        rw [one_of h1 hlt0, h2]; exact joinS_dash
      have hb1 : ((l.length : Int) == 1) = true := by rw [beq_iff_eq]; omega
      rw [h2] at hc0
      clear h1 h2
      go_wp2_with fail
      go_ret
      exact ⟨ret_str HJ.out.symm, Below.refl _ _⟩
    · have HJ : Hid (joinS l = joinC 124 (l.map escS)) := Lib.hid (joinS_else l (by intro e; rw [e] at hlt0; exact absurd hlt0 (by simp)) (by
        intro e
        rcases hcs with ⟨_, h2⟩ | h1
        · exact h2 (by simp [e])
        · exact h1 (by simp [e])))
      obtain ⟨x0, hx0⟩ : ∃ x0, l[0] = x0 := ⟨_, rfl⟩
      rw [hx0] at hcs hc0
      have HX0 := Lib.hid hx0
      clear hx0
      have hcs2 : (((l.length : Int) == 1) = true ∧ (x0.toList == [45]) = false) ∨ ((l.length : Int) == 1) = false := by
        rcases hcs with ⟨h1, h2⟩ | h1
        · exact .inl ⟨by rw [beq_iff_eq]; omega, dash_ne' h2⟩
        · exact .inr (by rw [beq_eq_false_iff_ne]; omega)
      clear hcs
      rcases hcs2 with ⟨hb1, hsd⟩ | hb1
      all_goals
        go_wp2_with fail
        go_loopw [3, 4] (fun v i wr => ∃ k : Nat, k ≤ l.length ∧ i = .int .i64 k ∧ wr.ownsRow w.heap.size 9 1 v k (strVs ((l.take k).map escS)) ∧ Below w.heap.size w wr) (fun _ i _ => l.length - (intOf i).toNat)
        case atStart => exact ⟨0, Nat.zero_le _, rfl, World.ownsRow_nil _ _ _ _, Below.refl _ _⟩
        case round =>
          obtain ⟨k, hk, rfl, hown, hbr⟩ := hrel
          clear hc0
          have hgt := hbr.size
          by_cases hlt : k < l.length
          · obtain ⟨b', o', e, hc⟩ := (hS.below hbr) k hlt
            injection e with e; injection e with e1 e2; subst e1; subst e2
            have hlb := World.block_lt_of_cell? wr _ hc
            have hsz : l[k].size ≤ 300000 := HZ.out _ (List.getElem_mem hlt)
            have HL := Lib.hid (esc_snoc l k hlt)
            go_wp2_with fail
            refine (resc_any _ _ (by omega)).mono ?_
            rintro e w2 ⟨rfl, hb2⟩
            have hown2 := own_below hown hb2
            have hbr2 := bthen hbr hb2
            go_wp2_with (at_builtin; refine wpList_append_own _ rfl _ _ 23 rfl w.heap.size 9 i0 (.string ByteArray.empty) 1 16 Tryz.underlying23 hi hz0 hz1 hz2 rfl (by decide) _ _ _ rfl (hown2.alloc _) ⟨w2.heap.size, 0, none⟩ 1 1 [strV (escS l[k])] rfl rfl (cell_one_new _ _ _) (by intro u hu; simp at hu; subst hu; rfl) (by unfold maxLen; omega) (by omega) (by have := hbr2.size; simp; omega) ?_; intro v' w1 hown1 hg1 _)
            have HB : Hid (Below w.heap.size w w1) := Lib.hid ((hbr2.alloc hbr2.size _).grown hg1 (by have := hbr2.size; simp; omega) (fun q hq => (hown2.lt q hq).1))
            have HO : Hid (w1.ownsRow w.heap.size 9 1 v' (k + 1) (strVs ((l.take (k + 1)).map escS))) := by
              show World.ownsRow _ _ _ _ _ _ _
              rw [← HL.out]; exact hown1
            clear hown1 hg1
            go_wp2_with fail
            go_roundw
            case rel => exact ⟨k + 1, by omega, by go_num, HO.out, HB.out⟩
            case measure => simp [intOf]; omega
          · have hK : k = l.length := by omega
            obtain ⟨A2, c2, rfl, hS2, _⟩ := own_strs (l := l.map escS) hown (by simp [hK]) (fun j hj => by
              rw [hK, List.take_of_length_le (Nat.le_refl _)]
              exact strVs_at _ j hj)
            have hj := between_any (l.map escS) 124 A2 c2 wr hS2 (by simpa using hl) (escS_map l HZ.out)
            rw [List.length_map] at hj
            rw [List.length_map]
            clear hS2
            go_wp2_with fail
            refine hj.mono ?_
            rintro e w3 ⟨rfl, hb3⟩
            go_wp2_with fail
            go_ret
            exact ⟨ret_str HJ.out.symm, bthen hbr hb3⟩
end Go.Proofs.YtiiioefjdebggaaGreatDoor

/- codec.Split and its reference compute splitS, splitErr. -/
namespace Go.Proofs.YtiiioefjdebggaaGreatDoor
open Go.RowKit

def unAllO : List ByteArray → Option (List ByteArray)
  | [] => some []
  | p :: ps => (unescO p).bind fun a => (unAllO ps).map (a :: ·)
theorem unAllO_eq (l : List (List UInt8)) : (unAll l).map (List.map bsOf) = unAllO (l.map bsOf) := by
  induction l with
  | nil => rfl
  | cons p ps ih =>
    rw [unAll, List.map_cons, unAllO, ← ih]
    show _ = ((unE (bsOf p).data.toList 0).map fun l => (⟨l.toArray⟩ : ByteArray)).bind _
    rw [list_bsOf]
    cases unE p 0 with
    | none => rfl
    | some a =>
      cases unAll ps with
      | none => rfl
      | some r => rfl
theorem splitO_else {s : ByteArray} (h1 : s ≠ ⟨#[45]⟩) (h2 : s ≠ ⟨#[37, 50, 68]⟩) : splitO s = unAllO (cutsS s 124) := by
  have e1 : ¬ s.data.toList = [45] := fun e => h1 (by rw [← bsOf_list s, e]; rfl)
  have e2 : ¬ s.data.toList = [37, 50, 68] := fun e => h2 (by rw [← bsOf_list s, e]; rfl)
  rw [splitO, splitE, if_neg e1, if_neg e2, unAllO_eq]; rfl
theorem splitO_dash : splitO ⟨#[45]⟩ = some [] := rfl
theorem splitO_2d : splitO ⟨#[37, 50, 68]⟩ = some [⟨#[45]⟩] := rfl
theorem split_some {s : ByteArray} {l : List ByteArray} (h : splitO s = some l) : splitS s = l ∧ splitErr s = 0 := by simp [splitS, splitErr, h]
theorem split_none {s : ByteArray} (h : splitO s = none) : splitS s = [] ∧ splitErr s = 4 := by simp [splitS, splitErr, h]
theorem all_none {l U : List ByteArray} {k : Nat} {R : Option (List ByteArray)} (hk : k < l.length) (h : unescO l[k] = none) (HP : (unAllO (l.drop k)).map (U ++ ·) = R) : R = none := by
  rw [List.drop_eq_getElem_cons hk, unAllO, h] at HP
  rw [← HP]; rfl
theorem all_step {l U : List ByteArray} {k : Nat} {t : ByteArray} {R : Option (List ByteArray)} (hk : k < l.length) (h : unescO l[k] = some t) (HP : (unAllO (l.drop k)).map (U ++ ·) = R) : (unAllO (l.drop (k + 1))).map ((U ++ [t]) ++ ·) = R := by
  rw [List.drop_eq_getElem_cons hk, unAllO, h, Option.bind_some] at HP
  rw [← HP]
  cases unAllO (l.drop (k + 1)) <;> simp
theorem all_end {l U : List ByteArray} {k : Nat} {R : Option (List ByteArray)} (hk : ¬ k < l.length) (HP : (unAllO (l.drop k)).map (U ++ ·) = R) : R = some U := by
  rw [List.drop_of_length_le (by omega), unAllO] at HP
  rw [← HP]; simp
theorem unesc_case (s : ByteArray) : (unescO s = none ∧ unescS s = ⟨#[]⟩ ∧ unescE s = 4) ∨ ∃ t, unescO s = some t ∧ unescS s = t ∧ unescE s = 0 := by
  cases h : unescO s with
  | none => exact .inl ⟨rfl, (un_noneO h)⟩
  | some t => exact .inr ⟨t, rfl, un_some h⟩
theorem done_all {xs : List Value} {l : List ByteArray} (hl : xs.length = l.length) (h : Done xs l l.length) : xs = strVs l := by
  apply List.ext_getElem?
  intro j
  by_cases hj : j < l.length
  · rw [h j hj hj, strVs_at l j hj]
  · rw [List.getElem?_eq_none (by omega), List.getElem?_eq_none (by simp [strVs]; omega)]
theorem set_vs {l U : List ByteArray} {k : Nat} (hU : U.length = k) (hk : k < l.length) (t : ByteArray) : (strVs (U ++ l.drop k)).set k (.string t) = strVs ((U ++ [t]) ++ l.drop (k + 1)) := by
  subst hU
  rw [List.drop_eq_getElem_cons hk]
  generalize l.drop (U.length + 1) = R
  generalize l[U.length] = x
  simp [strVs, strV]
theorem at_vs {l U : List ByteArray} {k : Nat} (hU : U.length = k) (hk : k < l.length) : (strVs (U ++ l.drop k))[k]? = some (.string l[k]) := by
  subst hU
  rw [List.drop_eq_getElem_cons hk]
  generalize l.drop (U.length + 1) = R
  generalize l[U.length] = x
  simp [strVs, strV]
theorem cutL_small (c : UInt8) (l : List UInt8) : ∀ p ∈ cutL c l, p.length ≤ l.length := by
  induction l with
  | nil => intro p hp; simp [cutL] at hp; subst hp; simp
  | cons x r ih =>
    intro p hp
    rw [cutL] at hp
    split at hp
    · rw [List.mem_cons] at hp
      rcases hp with rfl | hp
      · simp
      · have := ih p hp; simp; omega
    · cases hc : cutL c r with
      | nil => exact absurd hc (cutL_ne c r)
      | cons q qs =>
        rw [hc] at hp ih
        simp only [List.mem_cons] at hp
        rcases hp with rfl | hp
        · have := ih q (by simp); simp; omega
        · have := ih p (List.mem_cons_of_mem _ hp); simp; omega
theorem cuts_size {s : ByteArray} {c : UInt8} : ∀ p ∈ cutsS s c, p.size ≤ s.size := by
  intro p hp
  rw [cutsS, cutsL, List.mem_map] at hp
  obtain ⟨q, hq, rfl⟩ := hp
  have := cutL_small c s.data.toList q hq
  have e1 : (bsOf q).size = q.length := by simp [bsOf, ByteArray.size]
  have e2 : s.size = s.data.toList.length := by simp
  omega

set_option maxHeartbeats 4000000 in
set_option maxRecDepth 100000 in
theorem csplit_any (s : ByteArray) (w : World) (hs : s.size ≤ 1000000) :
    Calls Tryz.prog 121 #[.string s] w fun e w' => RetStrs2 w.heap.size w' e (splitS s) (splitErr s) ∧ Below w.heap.size w w' := by
  go_enter Tryz.func121, Tryz.ntmps121
  by_cases h1 : s = ⟨#[45]⟩
  · subst h1
    have hG := Lib.hid (split_some splitO_dash)
    go_wp2_with fail
    go_ret2
    exact ⟨⟨none, 0, by rw [hG.out.1, hG.out.2]; rfl, by rw [hG.out.1]; exact Strs.nil_ _ _, (fun p h => by cases h), by rw [hG.out.1]; exact Nat.le_refl _⟩, Below.refl _ _⟩
  · have hd1 := dash_ne' h1
    by_cases h2 : s = ⟨#[37, 50, 68]⟩
    · subst h2
      have hG := Lib.hid (split_some splitO_2d)
      clear hd1 h1
      go_wp2_with fail
      go_ret2
      refine ⟨⟨some ⟨w.heap.size, 0, none⟩, 1, by rw [hG.out.1, hG.out.2]; rfl, ?_, (fun p h => by cases h; exact Nat.le_refl _), by rw [hG.out.1]; exact Nat.le_refl _⟩, (Below.refl _ _).alloc (Nat.le_refl _) _⟩
      rw [hG.out.1]
      intro i hi
      have hi0 : i = 0 := by simpa using hi
      subst hi0
      exact ⟨w.heap.size, 0, rfl, by simp [go_sem]⟩
    · have hd2 : (s.toList == [37, 50, 68]) = false := by
        have := str_ne h2
        rwa [show (⟨#[37, 50, 68]⟩ : ByteArray).toList = [37, 50, 68] by rw [Lib.toList_data]] at this
      have HO := Lib.hid (splitO_else h1 h2)
      clear h1 h2
      have hle := cutsS_le s 124
      have HZ := Lib.hid (cuts_size (s := s) (c := 124))
      go_wp2_with fail
      refine (ssplit_any s 124 w (by omega)).mono ?_
      rintro e w1 ⟨xs, cap, rfl, hc1, hown1, hD1, hb1⟩
      have hx := done_all (by have := hown1.1; omega) hD1
      clear hD1
      subst hx
      obtain ⟨N, hN⟩ : ∃ N, (cutsS s 124).length = N := ⟨_, rfl⟩
      rw [hN] at hc1 hown1 hle
      have HN := Lib.hid hN
      rw [hN]
      clear hN
      go_wp2_with fail
      go_loopw [5, 6, 7, 8, 18] (fun _ _ _ _ j wr => ∃ (k : Nat) (U : List ByteArray), k ≤ N ∧ j = .int .i64 k ∧ U.length = k ∧ wr.ownsRow w.heap.size 9 1 (.slice (some ⟨w.heap.size, 0, none⟩) N cap) N (strVs (U ++ (cutsS s 124).drop k)) ∧ Hid ((unAllO ((cutsS s 124).drop k)).map (U ++ ·) = splitO s) ∧ Below w.heap.size w wr) (fun _ _ _ _ i _ => N - (intOf i).toNat)
      case atStart => exact ⟨0, [], Nat.zero_le _, rfl, rfl, by simpa using hown1, Lib.hid (by rw [HO.out]; simp), hb1⟩
      case round =>
        clear hown1
        obtain ⟨k, U, hk, rfl, hU, hown, HP, hbr⟩ := hrel
        by_cases hlt : k < N
        · have hlt2 : k < (cutsS s 124).length := by rw [HN.out]; exact hlt
          have hcell := (hown.cellAt k (by omega)).trans (at_vs hU hlt2)
          have hfr := hown.frozenAt k
          have hsz := HZ.out _ (List.getElem_mem hlt2)
          have HA : Hid (unescO (cutsS s 124)[k] = none → splitO s = none) := Lib.hid (fun h => all_none hlt2 h HP.out)
          have HB : Hid (∀ t, unescO (cutsS s 124)[k] = some t → (unAllO ((cutsS s 124).drop (k + 1))).map ((U ++ [t]) ++ ·) = splitO s) := Lib.hid (fun t h => all_step hlt2 h HP.out)
          have HU := Lib.hid hU
          have HL2 := Lib.hid hlt2
          generalize (cutsS s 124)[k] = x at hcell hsz HA HB
          have hun := unesc_any x wr (by omega)
          rcases unesc_case x with ⟨hx1, hx2, hx3⟩ | ⟨t, hx1, hx2, hx3⟩
          · rw [hx2, hx3] at hun
            have hG := Lib.hid (split_none (HA.out hx1))
            clear hx1 hx2 hx3 hU hlt2
            go_wp2_with fail
            refine hun.mono ?_
            rintro e w2 ⟨rfl, hb2⟩
            go_wp2_with fail
            go_ret2
            exact ⟨⟨none, 0, by rw [hG.out.1, hG.out.2]; rfl, by rw [hG.out.1]; exact Strs.nil_ _ _, (fun p h => by cases h), by rw [hG.out.1]; exact Nat.le_refl _⟩, bthen hbr hb2⟩
          · rw [hx2, hx3] at hun
            have HP1 := Lib.hid (HB.out t hx1)
            clear hx1 hx2 hx3 hU hlt2
            go_wp2_with fail
            refine hun.mono ?_
            rintro e w2 ⟨rfl, hb2⟩
            have hown2 := own_below hown hb2
            have hcell2 := (hown2.cellAt k (by omega)).trans (at_vs HU.out HL2.out)
            have hfr2 := hown2.frozenAt k
            clear hcell hfr
            go_wp2_with fail
            have HS := (hown2.stored k (.string t)).1
            rw [set_vs HU.out HL2.out] at HS
            go_roundw
            case rel => exact ⟨k + 1, U ++ [t], hlt, by go_num, by rw [List.length_append, HU.out]; rfl, HS, HP1, (bthen hbr hb2).setCell (p := ⟨w.heap.size, k, none⟩) (Nat.le_refl _) _⟩
            case measure => simp [intOf]; omega
        · have hkN : k = N := by omega
          have hG := Lib.hid (split_some (all_end (by rw [HN.out]; exact hlt) HP.out))
          have hdr : (cutsS s 124).drop k = [] := List.drop_of_length_le (by rw [HN.out]; omega)
          rw [hdr, List.append_nil] at hown
          clear hdr
          go_wp2_with fail
          go_ret2
          refine ⟨?_, hbr⟩
          rw [hG.out.1, hG.out.2]
          exact RetStrs2.own hown (hU.trans hkN) (strVs_at U)
end Go.Proofs.YtiiioefjdebggaaGreatDoor

/- Plain: how long the forms of lists are. -/
namespace Go.Proofs.YtiiioefjdebggaaGreatDoor
open Go.RowKit

theorem escL_ge (l : List UInt8) : l.length ≤ (escL l).length := by
  have h : unescO (escS ⟨l.toArray⟩) = some ⟨l.toArray⟩ := unesc_esc _
  have := unescO_size h
  have e1 : (⟨l.toArray⟩ : ByteArray).size = l.length := by show l.toArray.size = _; simp
  have e2 : (escS ⟨l.toArray⟩).size = (escL l).length := by show (escL _).toArray.size = _; simp
  omega
theorem escL_le (l : List UInt8) : (escL l).length ≤ 3 * l.length := by
  have := escS_size ⟨l.toArray⟩
  have e1 : (⟨l.toArray⟩ : ByteArray).size = l.length := by show l.toArray.size = _; simp
  have e2 : (escS ⟨l.toArray⟩).size = (escL l).length := by show (escL _).toArray.size = _; simp
  omega
theorem joinL_one (c : UInt8) (p : List UInt8) : joinL c [p] = p := rfl
theorem joinL_le (c : UInt8) (B : Nat) : ∀ ps : List (List UInt8), (∀ p ∈ ps, p.length ≤ B) → (joinL c ps).length ≤ ps.length * (B + 1)
  | [], _ => by simp [joinL]
  | p :: ps, h => by
    have hp := h p (by simp)
    by_cases hn : ps = []
    · subst hn; rw [joinL_one]; simp; omega
    · rw [joinL_cons c p ps hn]
      have ih := joinL_le c B ps (fun q hq => h q (List.mem_cons_of_mem _ hq))
      simp only [List.length_append, List.length_cons]
      rw [Nat.add_mul]; omega
theorem joinL_ge (c : UInt8) : ∀ ps : List (List UInt8), ps.length ≤ (joinL c ps).length + 1 ∧ ∀ p ∈ ps, p.length ≤ (joinL c ps).length
  | [] => by simp
  | p :: ps => by
    by_cases hn : ps = []
    · subst hn; rw [joinL_one]; simp
    · rw [joinL_cons c p ps hn]
      have ih := joinL_ge c ps
      refine ⟨by simp; omega, fun q hq => ?_⟩
      rw [List.mem_cons] at hq
      rcases hq with rfl | hq
      · simp
      · have := ih.2 q hq
        simp; omega
theorem bs_len (l : List UInt8) : (bsOf l).size = l.length := by show l.toArray.size = _; simp
theorem joinS_le (l : List ByteArray) (B : Nat) (h : ∀ s ∈ l, s.size ≤ B) : (joinS l).size ≤ 3 + l.length * (3 * B + 1) := by
  by_cases h0 : l = []
  · subst h0; rw [joinS_nil]; show 1 ≤ _; omega
  by_cases h1 : l = [⟨#[45]⟩]
  · subst h1; rw [joinS_dash]; show 3 ≤ _; omega
  rw [joinS_else l h0 h1, joinC, bs_len]
  have := joinL_le 124 (3 * B) ((l.map escS).map (·.data.toList)) (fun p hp => by
    simp only [List.mem_map] at hp
    obtain ⟨_, ⟨s, hs, rfl⟩, rfl⟩ := hp
    have h2 := escS_size s
    have h3 := h s hs
    have e : (escS s).data.toList.length = (escS s).size := by simp
    omega)
  simp only [List.length_map] at this
  omega
theorem split_len {s : ByteArray} {l : List ByteArray} (h : splitO s = some l) : l.length ≤ s.size + 1 ∧ ∀ t ∈ l, t.size ≤ s.size + 1 := by
  have hj := join_splitS h
  by_cases h0 : l = []
  · subst h0; simp
  by_cases h1 : l = [⟨#[45]⟩]
  · subst h1; refine ⟨by simp, fun t ht => ?_⟩
    rw [List.mem_singleton] at ht; subst ht; show 1 ≤ _; omega
  rw [joinS_else l h0 h1, joinC] at hj
  have hz : s.size = (joinL 124 ((l.map escS).map (·.data.toList))).length := by rw [← hj, bs_len]
  obtain ⟨g1, g2⟩ := joinL_ge 124 ((l.map escS).map (·.data.toList))
  simp only [List.length_map] at g1
  refine ⟨by omega, fun t ht => ?_⟩
  have := g2 (escS t).data.toList (by simp only [List.mem_map]; exact ⟨_, ⟨t, ht, rfl⟩, rfl⟩)
  have h3 : t.size ≤ (escS t).size := unescO_size (unesc_esc t)
  have e : (escS t).data.toList.length = (escS t).size := by simp
  omega
end Go.Proofs.YtiiioefjdebggaaGreatDoor

/- identityref02.decimal. -/
namespace Go.Proofs.YtiiioefjdebggaaGreatDoor
open Go.RowKit

def digC (c : UInt8) : Bool := decide (48 ≤ c.toNat ∧ c.toNat ≤ 57)
/-- A decimal form without sign. -/
def decL (l : List UInt8) (zero : Bool) : Bool := match l with
  | [] => false
  | c :: r => !(decide (c.toNat = 48) && (decide (r ≠ []) || !zero)) && (c :: r).all digC
theorem dig_all {s : ByteArray} {k : Nat} (h : k < s.size) (ha : (s.data.toList.take k).all digC = true) (hc : digC s[k] = true) : (s.data.toList.take (k + 1)).all digC = true := by
  have hl : k < s.data.toList.length := by simpa using h
  rw [List.take_succ_eq_append_getElem hl, List.all_append, ha, Bool.true_and, List.all_cons, List.all_nil, Bool.and_true]
  exact hc
theorem dig_bad {s : ByteArray} {k : Nat} (h : k < s.size) (hc : digC s[k] = false) : s.data.toList.all digC = false := by
  rw [List.all_eq_false]
  exact ⟨s[k], by rw [← Array.mem_def]; exact Array.getElem_mem _, by simp [hc]⟩
theorem decL_bad {l : List UInt8} {z : Bool} (h : l.all digC = false) : decL l z = false := by
  cases l with
  | nil => rfl
  | cons c r => rw [decL, h, Bool.and_false]
theorem decL_lead {s : ByteArray} {z : Bool} (h0 : 0 < s.size) (h48 : s[0].toNat = 48) (hz : 1 < s.size ∨ z = false) : decL s.data.toList z = false := by
  have hd := drop_cons s 0 h0
  rw [List.drop_zero] at hd
  rw [hd, decL]
  have e : (decide (s[0].toNat = 48) && (decide (s.data.toList.drop (0 + 1) ≠ []) || !z)) = true := by
    rw [decide_eq_true h48, Bool.true_and, Bool.or_eq_true]
    rcases hz with h | h
    · left
      rw [decide_eq_true_iff]
      intro e
      have := congrArg List.length e
      simp at this; omega
    · right; rw [h]; rfl
  rw [e]; rfl
theorem decL_good {s : ByteArray} {z : Bool} (h0 : 0 < s.size) (hl : s[0].toNat ≠ 48 ∨ (¬ 1 < s.size ∧ z = true)) (ha : s.data.toList.all digC = true) : decL s.data.toList z = true := by
  have hd := drop_cons s 0 h0
  rw [List.drop_zero] at hd
  rw [hd] at ha
  rw [hd, decL, ha, Bool.and_true, Bool.not_eq_true']
  rcases hl with h | ⟨h1, h2⟩
  · rw [decide_eq_false h, Bool.false_and]
  · have : s.data.toList.drop (0 + 1) = [] := List.drop_of_length_le (by simp; omega)
    rw [this, h2]; simp
set_option maxHeartbeats 1000000 in
theorem decimal_form (s : ByteArray) (z : Bool) (w : World) (hs : s.size ≤ 9223372036854775807) :
    Calls Tryz.prog 139 #[.string s, .bool z] w fun e w' => e = .returned (.bool (decL s.data.toList z)) ∧ w = w' := by
  go_enter Tryz.func139, Tryz.ntmps139
  by_cases h0 : s.size = 0
  · have HD : Hid (decL s.data.toList z = false) := by
      show _ = _
      have : s.data.toList = [] := List.eq_nil_of_length_eq_zero (by simpa using h0)
      rw [this]; rfl
    go_wp2_with fail
    go_ret
    exact ⟨ret_bool HD.out.symm, rfl⟩
  · have hpos : 0 < s.size := by omega
    have hb0 : ((s.size : Int) == 0) = false := by rw [beq_eq_false_iff_ne]; omega
    obtain ⟨c0, hc0⟩ : ∃ c0, s[0].toNat = c0 := ⟨_, rfl⟩
    have HC := Lib.hid hc0
    have hcs : (c0 = 48 ∧ (1 < s.size ∨ (¬ 1 < s.size ∧ z = false))) ∨ (c0 ≠ 48 ∨ (c0 = 48 ∧ ¬ 1 < s.size ∧ z = true)) := by
      by_cases h1 : c0 = 48
      · by_cases h2 : 1 < s.size
        · exact .inl ⟨h1, .inl h2⟩
        · cases z with
          | false => exact .inl ⟨h1, .inr ⟨h2, rfl⟩⟩
          | true => exact .inr (.inr ⟨h1, h2, rfl⟩)
      · exact .inr (.inl h1)
    clear h0
    rcases hcs with ⟨rfl, hz⟩ | hg
    · have HD : Hid (decL s.data.toList z = false) := Lib.hid (decL_lead hpos HC.out (hz.imp_right (·.2)))
      rcases hz with h | ⟨h, rfl⟩
      all_goals
        go_wp2_with fail
        go_ret
        exact ⟨ret_bool HD.out.symm, rfl⟩
    · have HG : Hid (s.data.toList.all digC = true → decL s.data.toList z = true) := Lib.hid (fun ha => decL_good hpos (by rw [HC.out]; exact hg.imp_right (·.2)) ha)
      have HBad : Hid (s.data.toList.all digC = false → decL s.data.toList z = false) := Lib.hid (fun ha => decL_bad ha)
      have hg2 : ((c0 : Int) == 48) = false ∨ (c0 = 48 ∧ ¬ 1 < s.size ∧ z = true) := hg.imp_left (fun h => by rw [beq_eq_false_iff_ne]; omega)
      clear hg
      rcases hg2 with h | ⟨rfl, h, rfl⟩
      all_goals
        go_wp2_with fail
        go_loop [5] (fun i => ∃ k : Nat, k ≤ s.size ∧ i = .int .i64 k ∧ Hid ((s.data.toList.take k).all digC = true)) (fun i => s.size - (intOf i).toNat)
        case atStart => exact ⟨0, Nat.zero_le _, rfl, Lib.hid (by simp)⟩
        case round =>
          clear hc0
          obtain ⟨k, hk, rfl, HA⟩ := hrel
          by_cases hlt : k < s.size
          · obtain ⟨c, hc⟩ : ∃ c, s[k].toNat = c := ⟨_, rfl⟩
            have HK := Lib.hid hc
            have hcs : c < 48 ∨ 57 < c ∨ (48 ≤ c ∧ c ≤ 57) := by omega
            rcases hcs with h1 | h1 | ⟨h1, h2⟩
            · have HD := Lib.hid (HBad.out (dig_bad hlt (by rw [digC, HK.out]; simp; omega)))
              go_wp2_with fail
              go_ret
              exact ⟨ret_bool HD.out.symm, rfl⟩
            · have HD := Lib.hid (HBad.out (dig_bad hlt (by rw [digC, HK.out]; simp; omega)))
              go_wp2_with fail
              go_ret
              exact ⟨ret_bool HD.out.symm, rfl⟩
            · have HD : Hid ((s.data.toList.take (k + 1)).all digC = true) := Lib.hid (dig_all hlt HA.out (by rw [digC, HK.out]; simp; omega))
              go_wp2_with fail
              go_round
              case rel => exact ⟨k + 1, hlt, by go_num, HD⟩
              case measure => simp [intOf]; omega
          · have HD := Lib.hid (HG.out (by have h := HA.out; rwa [List.take_of_length_le (by simp; omega)] at h))
            go_wp2_with fail
            go_ret
            exact ⟨ret_bool HD.out.symm, rfl⟩
end Go.Proofs.YtiiioefjdebggaaGreatDoor

/- Decimal digits: plain laws. -/
namespace Go.Proofs.YtiiioefjdebggaaGreatDoor
open Go.RowKit

/-- The value of decimal digits. -/
def valL (l : List UInt8) : Nat := l.foldl (fun n c => n * 10 + (c.toNat - 48)) 0
theorem valL_dec (u : Nat) : valL (Lib.decDigits u) = u := by
  induction u using Nat.strongRecOn with
  | _ u ih =>
    by_cases h : u < 10
    · rw [Lib.decDigits_one h]
      simp [valL]; omega
    · rw [Lib.decDigits, dif_neg h, valL, List.foldl_append, ← valL, ih (u / 10) (by omega)]
      simp; omega
theorem decDigits_digit (u : Nat) : ∀ c ∈ Lib.decDigits u, 48 ≤ c.toNat ∧ c.toNat ≤ 57 := by
  induction u using Nat.strongRecOn with
  | _ u ih =>
    by_cases h : u < 10
    · rw [Lib.decDigits_one h]
      intro c hc
      simp at hc; subst hc; simp; omega
    · rw [Lib.decDigits, dif_neg h]
      intro c hc
      rw [List.mem_append] at hc
      rcases hc with hc | hc
      · exact ih _ (by omega) c hc
      · simp at hc; subst hc; simp; omega
theorem itoa_cases (n : Int) : (∃ u : Nat, n = u ∧ Lib.itoa n = Lib.decDigits u) ∨ (∃ u : Nat, 1 ≤ u ∧ n = -(u : Int) ∧ Lib.itoa n = 45 :: Lib.decDigits u) := by
  by_cases h : 0 ≤ n
  · obtain ⟨u, rfl⟩ := Int.eq_ofNat_of_zero_le h
    exact .inl ⟨u, rfl, Lib.itoa_nonneg u⟩
  · refine .inr ⟨(-n).toNat, by omega, by omega, ?_⟩
    have e : n = -((-n).toNat : Int) := by omega
    conv => lhs; rw [e]
    exact Lib.itoa_neg _ (by omega)
theorem itoa_inj {n m : Int} (h : Lib.itoa n = Lib.itoa m) : n = m := by
  rcases itoa_cases n with ⟨u, rfl, hu⟩ | ⟨u, _, rfl, hu⟩ <;> rcases itoa_cases m with ⟨v, rfl, hv⟩ | ⟨v, _, rfl, hv⟩ <;> rw [hu, hv] at h
  · have := congrArg valL h
    rw [valL_dec, valL_dec] at this; rw [this]
  · have := decDigits_digit u 45 (by rw [h]; simp)
    have e : (45 : UInt8).toNat = 45 := rfl
    omega
  · have := decDigits_digit v 45 (by rw [← h]; simp)
    have e : (45 : UInt8).toNat = 45 := rfl
    omega
  · injection h with _ h
    have := congrArg valL h
    rw [valL_dec, valL_dec] at this; rw [this]
theorem itoa_nocolon (n : Int) : (58 : UInt8) ∉ Lib.itoa n := by
  intro hm
  have e : (58 : UInt8).toNat = 58 := rfl
  rcases itoa_cases n with ⟨u, rfl, hu⟩ | ⟨u, _, rfl, hu⟩ <;> rw [hu] at hm
  · have := decDigits_digit u _ hm; omega
  · rw [List.mem_cons] at hm
    rcases hm with hm | hm
    · cases hm
    · have := decDigits_digit u _ hm; omega
theorem split_first {a b x y : List UInt8} {c : UInt8} (ha : c ∉ a) (hb : c ∉ b) (h : a ++ c :: x = b ++ c :: y) : a = b ∧ x = y := by
  induction a generalizing b with
  | nil =>
    cases b with
    | nil => simp at h; exact ⟨rfl, h⟩
    | cons d b => simp at h; exact absurd (by rw [h.1]; simp) hb
  | cons d a ih =>
    cases b with
    | nil => simp at h; exact absurd (by rw [h.1]; simp) ha
    | cons e b =>
      simp at h
      have := ih (fun hm => ha (List.mem_cons_of_mem _ hm)) (fun hm => hb (List.mem_cons_of_mem _ hm)) h.2
      exact ⟨by rw [h.1, this.1], this.2⟩

theorem decDigits_ne (u : Nat) : Lib.decDigits u ≠ [] := by
  by_cases h : u < 10
  · rw [Lib.decDigits_one h]; simp
  · rw [Lib.decDigits, dif_neg h]; simp
/-- No leading nought. -/
theorem decDigits_lead (u : Nat) (h : 0 < u) : ∀ c, (Lib.decDigits u)[0]? = some c → c.toNat ≠ 48 := by
  induction u using Nat.strongRecOn with
  | _ u ih =>
    by_cases h10 : u < 10
    · rw [Lib.decDigits_one h10]
      intro c hc
      simp at hc; subst hc; simp; omega
    · rw [Lib.decDigits, dif_neg h10]
      intro c hc
      have hne := decDigits_ne (u / 10)
      rw [List.getElem?_append_left (by rw [List.length_pos_iff]; exact hne)] at hc
      exact ih (u / 10) (by omega) (by omega) c hc
theorem decDigits_len (k : Nat) : ∀ u, u < 10 ^ (k + 1) → (Lib.decDigits u).length ≤ k + 1 := by
  induction k with
  | zero => intro u h; rw [Lib.decDigits_one (by omega)]; simp
  | succ k ih =>
    intro u h
    by_cases h10 : u < 10
    · rw [Lib.decDigits_one h10]; simp
    · rw [Lib.decDigits, dif_neg h10, List.length_append]
      have := ih (u / 10) (by rw [Nat.pow_succ] at h; omega)
      simp; omega
theorem decDigits_len1 (u : Nat) (h : 10 ≤ u) : 2 ≤ (Lib.decDigits u).length := by
  rw [Lib.decDigits, dif_neg (by omega), List.length_append]
  have : 1 ≤ (Lib.decDigits (u / 10)).length := by
    have := decDigits_ne (u / 10)
    rw [← List.length_pos_iff] at this; omega
  simp; omega
/-- The value goes on from a. -/
def valF (a : Nat) (l : List UInt8) : Nat := l.foldl (fun n c => n * 10 + (c.toNat - 48)) a
theorem valL_eq (l : List UInt8) : valL l = valF 0 l := rfl
theorem valF_ge (l : List UInt8) : ∀ a, a ≤ valF a l := by
  induction l with
  | nil => intro a; exact Nat.le_refl _
  | cons c r ih => intro a; have := ih (a * 10 + (c.toNat - 48)); show a ≤ valF (a * 10 + (c.toNat - 48)) r; omega
theorem valF_append (a : Nat) (l m : List UInt8) : valF a (l ++ m) = valF (valF a l) m := by simp [valF, List.foldl_append]
end Go.Proofs.YtiiioefjdebggaaGreatDoor

/- identityref02.Int and codec.Int write the decimal form. -/
namespace Go.Proofs.YtiiioefjdebggaaGreatDoor
open Go.RowKit

theorem cint_any (n : Int) (w : World) (h0 : -9223372036854775808 ≤ n) (h1 : n ≤ 9223372036854775807) (hp : PowOk w) :
    Calls Tryz.prog 129 #[.int .i64 n] w fun e w' => e = .returned (.string (itoaS n)) ∧ Below w.heap.size w w' := by
  have HI := Lib.hid (itoa_any n w h0 h1 hp)
  clear h0 h1
  go_enter Tryz.func129, Tryz.ntmps129
  go_wp2_with fail
  refine HI.out.mono ?_
  rintro e w1 ⟨rfl, hb1⟩
  go_wp2_with fail
  go_ret
  exact ⟨rfl, hb1⟩

/-- The digits of a number, none of 0. -/
def digP (v : Nat) : List UInt8 := if v = 0 then [] else Lib.decDigits v
theorem digP_step (v : Nat) (h : v ≠ 0) : digP v = digP (v / 10) ++ [UInt8.ofNat (48 + v % 10)] := by
  unfold digP
  rw [if_neg h]
  by_cases h10 : v < 10
  · rw [Lib.decDigits_one h10, if_pos (by omega), Nat.mod_eq_of_lt h10]; rfl
  · rw [if_neg (by omega)]
    conv => lhs; rw [Lib.decDigits, dif_neg h10]
theorem conv1 (w : World) (b : UInt8) : (convert 107 9 (.slice (some ⟨w.heap.size, 0, none⟩) 1 1)).run Tryz.prog (w.alloc (.cells #[.int .u8 (b.toNat : Int)] 5)) =
    .ok (.string ⟨#[b]⟩) (w.alloc (.cells #[.int .u8 (b.toNat : Int)] 5)) := by
  refine run_convert_bytes_back (w.alloc (.cells #[.int .u8 (b.toNat : Int)] 5)) 107 9 5 ⟨w.heap.size, 0, none⟩ 1 [b] Tryz.underlying107 Tryz.underlying5 Tryz.underlying9 (fun j hj => ?_)
  have : j = 0 := by simp at hj; omega
  subst this
  simp [go_sem, Addr.add]
theorem dig_byte (d : Nat) (_h : d < 10) : IntKind.u8.wrap (48 + (d : Int)) = ((UInt8.ofNat (48 + d)).toNat : Int) := by
  rw [IntKind.wrap_u8']; simp
theorem digP_one (v : Nat) (h : v ≠ 0) : (⟨(digP v).toArray⟩ : ByteArray) = decS v := by rw [digP, if_neg h]; rfl

theorem digP_len (u : Nat) (h : u ≤ 9223372036854775808) : (digP u).length ≤ 20 := by
  unfold digP
  split
  · simp
  · have := Lib.nDigits_le20 u (by omega)
    simpa [Lib.decDigits_length] using this
theorem app_one (q : UInt8) (t : List UInt8) : (⟨#[q]⟩ : ByteArray) ++ ⟨t.toArray⟩ = ⟨(q :: t).toArray⟩ := by
  apply ByteArray.ext
  simp [ByteArray.data_append]
set_option maxHeartbeats 2000000 in
theorem rint_any (n : Int) (w : World) (h0 : -9223372036854775808 ≤ n) (h1 : n ≤ 9223372036854775807) :
    Calls Tryz.prog 132 #[.int .i64 n] w fun e w' => e = .returned (.string (itoaS n)) ∧ Below w.heap.size w w' := by
  have hcs : n = 0 ∨ 0 < n ∨ n < 0 := by omega
  rcases hcs with rfl | hn | hn
  · clear h0 h1
    go_enter Tryz.func132, Tryz.ntmps132
    go_wp2_with fail
    go_ret
    exact ⟨ret_str (by decide +kernel), Below.refl _ _⟩
  · obtain ⟨u, rfl⟩ := Int.eq_ofNat_of_zero_le (show 0 ≤ n by omega)
    have hu : u ≠ 0 := by omega
    have HE : Hid (itoaS (u : Int) = ⟨(digP u).toArray⟩) := by show _ = _; rw [itoaS_nat, digP_one u hu]
    have hb0 : ((u : Int) == 0) = false := by rw [beq_eq_false_iff_ne]; omega
    have kc := fun (w : World) (b : UInt8) => conv1 w b
    clear h0 hu
    go_enter Tryz.func132, Tryz.ntmps132
    go_wp2_with fail
    go_loopw [3, 4, 5] (fun out m _ wr => ∃ (v : Nat) (t : List UInt8), v ≤ u ∧ m = .int .i64 (v : Int) ∧ out = .string ⟨t.toArray⟩ ∧ Hid (digP v ++ t = digP u) ∧ Below w.heap.size w wr) (fun _ m _ _ => (intOf m).toNat)
    case atStart => exact ⟨u, [], by omega, rfl, rfl, Lib.hid (by simp), Below.refl _ _⟩
    case round =>
      obtain ⟨v, t, hv, rfl, rfl, HT, hbr⟩ := hrel
      by_cases hv0 : v = 0
      · subst hv0
        go_wp2_with fail
        go_ret
        have hT := HT.out
        rw [show digP 0 = [] from rfl, List.nil_append] at hT
        exact ⟨ret_str (by rw [HE.out, hT]), hbr⟩
      · have hvb : ((v : Int) != 0) = true := by rw [bne_iff_ne]; omega
        obtain ⟨q, HQ⟩ : ∃ q, Hid (UInt8.ofNat (48 + v % 10) = q) := ⟨_, Lib.hid rfl⟩
        have hq : IntKind.u8.wrap (48 + (v : Int) % 10) = (q.toNat : Int) := by
          have := dig_byte (v % 10) (by omega)
          rw [HQ.out] at this
          rw [← this]; simp
        have HS : Hid (digP (v / 10) ++ (q :: t) = digP u) := by
          show _ = _
          rw [← HT.out, digP_step v hv0, HQ.out]; simp
        have hv1 : 0 < v := by omega
        have ht : t.length ≤ 20 := by
          have := congrArg List.length HT.out
          have h3 : (digP u).length ≤ 20 := digP_len u (by omega)
          simp at this; omega
        clear hv0
        go_wp2_with fail
        go_roundw
        case rel => exact ⟨v / 10, q :: t, by omega, by go_num, congrArg Value.string (app_one q t), Lib.hid HS.out, hbr.alloc hbr.size _⟩
        case measure => simp [intOf]; omega
  · obtain ⟨u, hu⟩ : ∃ u : Nat, n = -(u : Int) := ⟨(-n).toNat, by omega⟩
    subst hu
    have hu0 : u ≠ 0 := by omega
    have hul : u ≤ 9223372036854775808 := by omega
    have HE : Hid (itoaS (-(u : Int)) = ⟨#[45]⟩ ++ ⟨(digP u).toArray⟩) := by
      show _ = _
      rw [itoaS, Lib.itoa_neg u (by omega), digP, if_neg hu0]
      apply ByteArray.ext
      simp [ByteArray.data_append]
    have hb0 : (-(u : Int) == 0) = false := by rw [beq_eq_false_iff_ne]; omega
    have kc := fun (w : World) (b : UInt8) => conv1 w b
    clear h1 hu0
    go_enter Tryz.func132, Tryz.ntmps132
    go_wp2_with fail
    go_loopw [3, 4, 5] (fun out m _ wr => ∃ (v : Nat) (t : List UInt8), v ≤ u ∧ m = .int .i64 (-(v : Int)) ∧ out = .string ⟨t.toArray⟩ ∧ Hid (digP v ++ t = digP u) ∧ Below w.heap.size w wr) (fun _ m _ _ => (-(intOf m)).toNat)
    case atStart => exact ⟨u, [], by omega, rfl, rfl, Lib.hid (by simp), Below.refl _ _⟩
    case round =>
      obtain ⟨v, t, hv, rfl, rfl, HT, hbr⟩ := hrel
      have ht : t.length ≤ 20 := by
        have := congrArg List.length HT.out
        have h3 : (digP u).length ≤ 20 := digP_len u (by omega)
        simp at this; omega
      by_cases hv0 : v = 0
      · subst hv0
        have hT : Hid (t = digP u) := by
          have hT := HT.out
          rwa [show digP 0 = [] from rfl, List.nil_append] at hT
        go_wp2_with fail
        go_ret
        exact ⟨ret_str (by rw [HE.out, hT.out]), hbr⟩
      · have hvb : (-(v : Int) != 0) = true := by rw [bne_iff_ne]; omega
        obtain ⟨q, HQ⟩ : ∃ q, Hid (UInt8.ofNat (48 + v % 10) = q) := ⟨_, Lib.hid rfl⟩
        obtain ⟨d, HD⟩ : ∃ d, Hid (v % 10 = d) := ⟨_, Lib.hid rfl⟩
        have hd10 : d < 10 := by have := HD.out; omega
        have hq : IntKind.u8.wrap (48 + (d : Int)) = (q.toNat : Int) := by
          have := dig_byte (v % 10) (by omega)
          rw [HQ.out, HD.out] at this
          exact this
        have HS : Hid (digP (v / 10) ++ (q :: t) = digP u) := by
          show _ = _
          rw [← HT.out, digP_step v hv0, HQ.out]; simp
        have ed : (-(v : Int)).tmod 10 = -(d : Int) := by rw [Int.neg_tmod, Int.tmod_eq_emod_of_nonneg (by omega)]; have := HD.out; omega
        obtain ⟨z, HZ⟩ : ∃ z, Hid (v / 10 = z) := ⟨_, Lib.hid rfl⟩
        have ez : (-(v : Int)).tdiv 10 = -(z : Int) := by rw [Int.neg_tdiv, Int.tdiv_eq_ediv_of_nonneg (by omega)]; have := HZ.out; omega
        have hv1 : 0 < v := by omega
        have hzl : z ≤ v := by have := HZ.out; omega
        clear hv0
        have HR : Hid (digP z ++ (q :: t) = digP u) := by show _ = _; rw [← HZ.out]; exact HS.out
        have hzv : z < v := by have := HZ.out; omega
        by_cases hd0 : d = 0
        · subst hd0
          obtain rfl : q = 48 := by rw [← HQ.out, HD.out]; rfl
          have kc48 : ∀ w : World, (convert 107 9 (.slice (some ⟨w.heap.size, 0, none⟩) 1 1)).run Tryz.prog (w.alloc (.cells #[.int .u8 48] 5)) = .ok (.string ⟨#[48]⟩) (w.alloc (.cells #[.int .u8 48] 5)) := fun w => conv1 w 48
          clear ed
          have ed : (-(v : Int)).tmod 10 = 0 := by rw [Int.neg_tmod, Int.tmod_eq_emod_of_nonneg (by omega)]; have := HD.out; omega
          go_wp2_with fail
          go_roundw
          case rel => exact ⟨z, 48 :: t, by omega, rfl, congrArg Value.string (app_one 48 t), Lib.hid HR.out, hbr.alloc hbr.size _⟩
          case measure => simp [intOf]; omega
        · have hd1 : 0 < d := by omega
          clear hd0
          go_wp2_with fail
          go_roundw
          case rel => exact ⟨z, q :: t, by omega, rfl, congrArg Value.string (app_one q t), Lib.hid HR.out, hbr.alloc hbr.size _⟩
          case measure => simp [intOf]; omega
end Go.Proofs.YtiiioefjdebggaaGreatDoor

/- Plain: the number with a decimal form. -/
namespace Go.Proofs.YtiiioefjdebggaaGreatDoor
open Go.RowKit

/-- Whether a list of bytes is a decimal form, and its number. -/
def intForm (l : List UInt8) : Bool := match l with
  | [] => false
  | c :: r => if c = 45 then decL r false else decL (c :: r) true
def intVal (l : List UInt8) : Int := match l with
  | [] => 0
  | c :: r => if c = 45 then -(valL r : Int) else valL (c :: r)
def inInt (z : Int) : Prop := -9223372036854775808 ≤ z ∧ z ≤ 9223372036854775807
instance (z : Int) : Decidable (inInt z) := by unfold inInt; infer_instance
/-- What ReadInt gives: the number and the code. -/
def readIntP (s : ByteArray) : Int × Int :=
  if intForm s.data.toList = true then (if inInt (intVal s.data.toList) then (intVal s.data.toList, 0) else (0, 27)) else (0, 4)
theorem readInt_form {s : ByteArray} (h : intForm s.data.toList = false) : readIntP s = (0, 4) := by rw [readIntP, if_neg (by rw [h]; decide)]
theorem readInt_range {s : ByteArray} (h : intForm s.data.toList = true) (hr : ¬ inInt (intVal s.data.toList)) : readIntP s = (0, 27) := by rw [readIntP, if_pos h, if_neg hr]
theorem readInt_ok {s : ByteArray} (h : intForm s.data.toList = true) (hr : inInt (intVal s.data.toList)) : readIntP s = (intVal s.data.toList, 0) := by rw [readIntP, if_pos h, if_pos hr]
theorem decL_digits {l : List UInt8} {z : Bool} (h : decL l z = true) : l ≠ [] ∧ ∀ c ∈ l, 48 ≤ c.toNat ∧ c.toNat ≤ 57 := by
  cases l with
  | nil => cases h
  | cons c r =>
    rw [decL, Bool.and_eq_true] at h
    refine ⟨by simp, fun x hx => ?_⟩
    have := List.all_eq_true.1 h.2 x hx
    simpa [digC] using this
theorem parse10_all : ∀ (l : List UInt8) (a : Nat), (∀ c ∈ l, 48 ≤ c.toNat ∧ c.toNat ≤ 57) → a < 18446744073709551616 → Lib.parseUint10 a l = if valF a l < 18446744073709551616 then .ok (valF a l) else .range := by
  intro l
  induction l with
  | nil => intro a _ ha; rw [if_pos (show valF a [] < _ from ha)]; rfl
  | cons c r ih =>
    intro a hd ha
    have hc := hd c (by simp)
    have hge := valF_ge r (a * 10 + (c.toNat - 48))
    have hv : valF a (c :: r) = valF (a * 10 + (c.toNat - 48)) r := rfl
    rw [Lib.parseUint10, if_pos hc]
    by_cases h1 : 1844674407370955162 ≤ a
    · rw [if_pos h1, hv, if_neg (by omega)]
    · rw [if_neg h1]
      by_cases h2 : 18446744073709551616 ≤ a * 10 + (c.toNat - 48)
      · rw [if_pos h2, hv, if_neg (by omega)]
      · rw [if_neg h2, ih _ (fun x hx => hd x (List.mem_cons_of_mem _ hx)) (by omega), hv]
theorem parseMag_all {l : List UInt8} {z : Bool} (h : decL l z = true) : Lib.parseMag l = if valL l < 18446744073709551616 then .ok (valL l) else .range := by
  obtain ⟨h1, h2⟩ := decL_digits h
  rw [Lib.parseMag, if_neg h1, parse10_all l 0 h2 (by omega)]; rfl
/-- How strconv.Atoi ends at a decimal form. -/
theorem atoi_form {l : List UInt8} (h : intForm l = true) : Lib.atoiAll l = if inInt (intVal l) then .ok (intVal l) else .range := by
  cases l with
  | nil => cases h
  | cons c r =>
    unfold intForm at h
    have hI : intVal (c :: r) = if c = 45 then -(valL r : Int) else valL (c :: r) := rfl
    by_cases hc : c = 45
    · subst hc
      simp only [if_true] at h hI
      have hp := parseMag_all h
      rw [Lib.atoiAll_minus, hp, hI]
      by_cases hb : valL r < 18446744073709551616
      · rw [if_pos hb]
        by_cases h2 : 9223372036854775808 < valL r
        · simp only [Lib.signed, if_pos h2]; rw [if_neg (fun h : inInt _ => by unfold inInt at h; omega)]
        · simp only [Lib.signed, if_neg h2]; rw [if_pos (show inInt _ by unfold inInt; omega)]
      · rw [if_neg hb, if_neg (fun h : inInt _ => by unfold inInt at h; omega)]; rfl
    · simp only [if_neg hc] at h hI
      have hp := parseMag_all h
      have hd := (decL_digits h).2 c (by simp)
      rw [Lib.atoiAll_plain c r (by omega) (by omega), hp, hI]
      by_cases hb : valL (c :: r) < 18446744073709551616
      · rw [if_pos hb]
        by_cases h2 : 9223372036854775808 ≤ valL (c :: r)
        · simp only [Lib.signless, if_pos h2]; rw [if_neg (fun h : inInt _ => by unfold inInt at h; omega)]
        · simp only [Lib.signless, if_neg h2]; rw [if_pos (show inInt _ by unfold inInt; omega)]
      · rw [if_neg hb, if_neg (fun h : inInt _ => by unfold inInt at h; omega)]; rfl
/-- A form without sign is the form of its number. -/
theorem dec_val (n : Nat) : ∀ l : List UInt8, l.length = n + 1 → (∀ c ∈ l, 48 ≤ c.toNat ∧ c.toNat ≤ 57) → (n = 0 ∨ ∀ c, l[0]? = some c → c.toNat ≠ 48) → Lib.decDigits (valL l) = l := by
  induction n with
  | zero =>
    intro l hl hd _
    match l, hl with
    | [c], _ =>
      have hc := hd c (by simp)
      have e : valL [c] = c.toNat - 48 := by simp [valL]
      rw [e, Lib.decDigits_one (by omega)]
      congr 1
      apply UInt8.toNat_inj.1
      simp; omega
  | succ n ih =>
    intro l hl hd hlead
    have hne : l ≠ [] := by intro e; subst e; simp at hl
    obtain ⟨m, c, rfl⟩ : ∃ m c, l = m ++ [c] := ⟨l.dropLast, l.getLast hne, (List.dropLast_concat_getLast hne).symm⟩
    have hm : m.length = n + 1 := by simpa using hl
    have hlead2 : ∀ x, m[0]? = some x → x.toNat ≠ 48 := by
      intro x hx
      rcases hlead with h | h
      · omega
      · exact h x (by rw [List.getElem?_append_left (by omega)]; exact hx)
    have hi := ih m hm (fun x hx => hd x (by simp [hx])) (.inr hlead2)
    have hpos : valL m ≠ 0 := by
      intro e
      rw [e] at hi
      have : m = [48] := by rw [← hi]; decide +kernel
      subst this
      exact hlead2 48 rfl rfl
    have hc := hd c (by simp)
    have hv : valL (m ++ [c]) = valL m * 10 + (c.toNat - 48) := by simp [valL, List.foldl_append]
    rw [hv, Lib.decDigits, dif_neg (by omega), show (valL m * 10 + (c.toNat - 48)) / 10 = valL m by omega, hi, show (valL m * 10 + (c.toNat - 48)) % 10 = c.toNat - 48 by omega]
    congr 2
    apply UInt8.toNat_inj.1
    simp; omega
theorem decL_lead0 {l : List UInt8} {z : Bool} (h : decL l z = true) : l.length = 0 + 1 ∨ ∀ c, l[0]? = some c → c.toNat ≠ 48 := by
  cases l with
  | nil => cases h
  | cons c r =>
    rw [decL, Bool.and_eq_true, Bool.not_eq_true'] at h
    by_cases hr : r = []
    · left; rw [hr]; rfl
    · right
      intro x hx
      simp at hx; subst hx
      intro e
      have := h.1
      rw [decide_eq_true e, decide_eq_true hr] at this
      simp at this
theorem decL_dec {l : List UInt8} {z : Bool} (h : decL l z = true) : Lib.decDigits (valL l) = l := by
  obtain ⟨h1, h2⟩ := decL_digits h
  have hl : l.length = l.length - 1 + 1 := by
    have := List.length_pos_iff.2 h1; omega
  refine dec_val (l.length - 1) l hl h2 ?_
  rcases decL_lead0 h with h | h
  · left; omega
  · exact .inr h
/-- A form is the form of its number. -/
theorem form_itoa {l : List UInt8} (h : intForm l = true) : Lib.itoa (intVal l) = l := by
  cases l with
  | nil => cases h
  | cons c r =>
    unfold intForm at h
    have hI : intVal (c :: r) = if c = 45 then -(valL r : Int) else valL (c :: r) := rfl
    by_cases hc : c = 45
    · subst hc
      simp only [if_true] at h hI
      have hd := decL_dec h
      have hpos : 1 ≤ valL r := by
        cases r with
        | nil => cases h
        | cons x t =>
          rcases Nat.eq_zero_or_pos (valL (x :: t)) with e | e
          · exfalso
            rw [e] at hd
            have hx : [48] = x :: t := by rw [← hd]; decide +kernel
            injection hx with hx ht
            subst hx; subst ht
            exact absurd h (by decide)
          · exact e
      rw [hI, Lib.itoa_neg _ hpos, hd]
    · simp only [if_neg hc] at h hI
      rw [hI, Lib.itoa_nonneg, decL_dec h]
theorem dec_decL (u : Nat) : decL (Lib.decDigits u) true = true ∧ (0 < u → decL (Lib.decDigits u) false = true) := by
  have hd := decDigits_digit u
  have hne := decDigits_ne u
  have hlead := decDigits_lead u
  have hall : (Lib.decDigits u).all digC = true := by
    rw [List.all_eq_true]; intro c hc; simpa [digC] using hd c hc
  by_cases h0 : u = 0
  · subst h0
    exact ⟨by decide +kernel, fun h => absurd h (by omega)⟩
  · have hl := hlead (by omega)
    generalize Lib.decDigits u = l at *
    cases l with
    | nil => exact absurd rfl hne
    | cons c r =>
      have hc := hl c rfl
      constructor
      · rw [decL, hall, decide_eq_false hc]; rfl
      · intro _; rw [decL, hall, decide_eq_false hc]; rfl
theorem itoa_form (n : Int) : intForm (Lib.itoa n) = true ∧ intVal (Lib.itoa n) = n := by
  rcases itoa_cases n with ⟨u, rfl, hu⟩ | ⟨u, h1, rfl, hu⟩
  · rw [hu]
    have hd := (dec_decL u).1
    have hv := valL_dec u
    have hdig := decDigits_digit u
    generalize Lib.decDigits u = l at *
    cases l with
    | nil => cases hd
    | cons c r =>
      have hc := hdig c (by simp)
      have hne : ¬ c = 45 := by rintro rfl; exact absurd hc (by decide)
      exact ⟨by rw [intForm, if_neg hne]; exact hd, by rw [intVal, if_neg hne, hv]⟩
  · rw [hu]
    exact ⟨by rw [intForm, if_pos rfl]; exact (dec_decL u).2 (by omega), by rw [intVal, if_pos rfl, valL_dec]⟩
/-- What is written is read. -/
theorem readInt_itoa (n : Int) (h0 : -9223372036854775808 ≤ n) (h1 : n ≤ 9223372036854775807) : readIntP (itoaS n) = (n, 0) := by
  have e : (itoaS n).data.toList = Lib.itoa n := by simp [itoaS]
  obtain ⟨f1, f2⟩ := itoa_form n
  have := readInt_ok (s := itoaS n) (by rw [e]; exact f1) (by rw [e, f2]; exact ⟨h0, h1⟩)
  rw [this, e, f2]
/-- What is read was written so. -/
theorem itoa_readInt {s : ByteArray} (h : (readIntP s).2 = 0) : itoaS (readIntP s).1 = s := by
  unfold readIntP at h ⊢
  by_cases hf : intForm s.data.toList = true
  · rw [if_pos hf] at h ⊢
    by_cases hr : inInt (intVal s.data.toList)
    · rw [if_pos hr]
      apply ByteArray.ext
      have := form_itoa hf
      simp [itoaS, this]
    · rw [if_neg hr] at h; exact absurd h (by decide)
  · rw [if_neg hf] at h; exact absurd h (by decide)
end Go.Proofs.YtiiioefjdebggaaGreatDoor

/- Plain: the text form of claims. -/
namespace Go.Proofs.YtiiioefjdebggaaGreatDoor
open Go.RowKit

/-- The keys of the lines. -/
def keysS : List ByteArray := [⟨#[107, 105, 110, 100]⟩, ⟨#[105, 115, 115, 117, 101, 114]⟩, ⟨#[115, 117, 98, 106, 101, 99, 116]⟩, ⟨#[99, 108, 105, 101, 110, 116]⟩, ⟨#[116, 101, 110, 97, 110, 116]⟩, ⟨#[105, 100]⟩, ⟨#[115, 101, 115, 115, 105, 111, 110]⟩, ⟨#[110, 111, 110, 99, 101]⟩, ⟨#[97, 117, 100, 105, 101, 110, 99, 101]⟩, ⟨#[115, 99, 111, 112, 101, 115]⟩, ⟨#[97, 99, 116, 111, 114, 115]⟩, ⟨#[105, 115, 115, 117, 101, 100]⟩, ⟨#[110, 111, 116, 98, 101, 102, 111, 114, 101]⟩, ⟨#[101, 120, 112, 105, 114, 101, 115]⟩, ⟨#[97, 117, 116, 104, 116, 105, 109, 101]⟩, ⟨#[108, 101, 118, 101, 108]⟩]
/-- The values of the lines. -/
def valsS (c : Cl) : List ByteArray := [escS c.kind, escS c.issuer, escS c.subject, escS c.client, escS c.tenant, escS c.id, escS c.session, escS c.nonce, joinS c.aud, joinS c.sco, joinS c.act, itoaS c.issued, itoaS c.nb, itoaS c.exp, itoaS c.auth, itoaS c.level]
theorem keysS_len : keysS.length = 16 := rfl
theorem valsS_len (c : Cl) : (valsS c).length = 16 := rfl
/-- The text form. -/
def encS (c : Cl) : ByteArray := bsOf (linesL keysS (valsS c))
theorem encS_list (c : Cl) : (encS c).data.toList = linesL keysS (valsS c) := rfl
theorem keys_nl : ∀ k ∈ keysS, (10 : UInt8) ∉ k.data.toList := by decide
theorem keys_len : ∀ k ∈ keysS, k.size ≤ 9 := by decide
theorem esc_nl (s : ByteArray) : (10 : UInt8) ∉ (escS s).data.toList := by
  show (10 : UInt8) ∉ (escL s.data.toList).toArray.toList
  simpa using escL_nosep s.data.toList 10 (by decide) (by decide)
theorem joinL_no {c d : UInt8} (hcd : d ≠ c) : ∀ (ps : List (List UInt8)), (∀ p ∈ ps, d ∉ p) → d ∉ joinL c ps
  | [], _ => by simp [joinL]
  | [p], h => by simpa [joinL] using h p (by simp)
  | p :: q :: r, h => by
    have := joinL_no hcd (q :: r) (fun x hx => h x (by simp [hx]))
    rw [joinL_cons c p (q :: r) (by simp)]
    simp only [List.mem_append, List.mem_cons, not_or]
    exact ⟨h p (by simp), hcd, this⟩
theorem join_nl (l : List ByteArray) : (10 : UInt8) ∉ (joinS l).data.toList := by
  show (10 : UInt8) ∉ (joinE (l.map (·.data.toList))).toArray.toList
  rw [joinE]
  split
  · decide
  · split
    · decide
    · refine joinL_no (by decide) _ (fun p hp => ?_)
      rw [List.mem_map] at hp
      obtain ⟨q, _, rfl⟩ := hp
      exact escL_nosep q 10 (by decide) (by decide)
theorem itoa_nl (n : Int) : (10 : UInt8) ∉ (itoaS n).data.toList := by
  show (10 : UInt8) ∉ (Lib.itoa n).toArray.toList
  rw [List.toList_toArray]
  rcases itoa_cases n with ⟨u, _, e⟩ | ⟨u, _, _, e⟩
  · rw [e]; intro h; have := decDigits_digit u _ h; simp at this
  · rw [e]; intro h
    rcases List.mem_cons.1 h with h | h
    · cases h
    · have := decDigits_digit u _ h; simp at this
theorem vals_nl (c : Cl) : ∀ v ∈ valsS c, (10 : UInt8) ∉ v.data.toList := by
  intro v hv
  simp only [valsS, List.mem_cons, List.not_mem_nil, or_false] at hv
  rcases hv with h | h | h | h | h | h | h | h | h | h | h | h | h | h | h | h <;> subst h
  all_goals first | exact esc_nl _ | exact join_nl _ | exact itoa_nl _
/-- Claims that are read from values. -/
def decC (f : Nat → ByteArray) : Cl := ⟨unescS (f 0), unescS (f 1), unescS (f 2), unescS (f 3), unescS (f 4), unescS (f 5), unescS (f 6), unescS (f 7), splitS (f 8), splitS (f 9), splitS (f 10), (readIntP (f 11)).1, (readIntP (f 12)).1, (readIntP (f 13)).1, (readIntP (f 14)).1, (readIntP (f 15)).1⟩
theorem unesc_escS (s : ByteArray) : unescS (escS s) = s := by rw [unescS, unesc_esc]; rfl
theorem splitS_joinS (l : List ByteArray) : splitS (joinS l) = l := by rw [splitS, split_joinS]; rfl
structure IntsIn (c : Cl) : Prop where
  i0 : inInt c.issued
  i1 : inInt c.nb
  i2 : inInt c.exp
  i3 : inInt c.auth
  i4 : inInt c.level
theorem decC_vals (c : Cl) (h : IntsIn c) (f : Nat → ByteArray) (hf : ∀ i, (hi : i < (valsS c).length) → f i = (valsS c)[i]) : decC f = c := by
  have g := fun i hi => hf i hi
  obtain ⟨kind, issuer, subject, client, tenant, id, session, nonce, aud, sco, act, issued, nb, exp, auth, level⟩ := c
  obtain ⟨i0, i1, i2, i3, i4⟩ := h
  unfold decC
  rw [g 0 (show 0 < 16 by decide), g 1 (show 1 < 16 by decide), g 2 (show 2 < 16 by decide), g 3 (show 3 < 16 by decide), g 4 (show 4 < 16 by decide), g 5 (show 5 < 16 by decide), g 6 (show 6 < 16 by decide), g 7 (show 7 < 16 by decide), g 8 (show 8 < 16 by decide), g 9 (show 9 < 16 by decide), g 10 (show 10 < 16 by decide), g 11 (show 11 < 16 by decide), g 12 (show 12 < 16 by decide), g 13 (show 13 < 16 by decide), g 14 (show 14 < 16 by decide), g 15 (show 15 < 16 by decide)]
  simp only [valsS, List.getElem_cons_zero, List.getElem_cons_succ, unesc_escS, splitS_joinS]
  rw [readInt_itoa _ i0.1 i0.2, readInt_itoa _ i1.1 i1.2, readInt_itoa _ i2.1 i2.2, readInt_itoa _ i3.1 i3.2, readInt_itoa _ i4.1 i4.2]
/-- Small claims: what Check lets pass. -/
structure ClSmall (c : Cl) : Prop where
  s0 : c.kind.size ≤ 256
  s1 : c.issuer.size ≤ 256
  s2 : c.subject.size ≤ 256
  s3 : c.client.size ≤ 256
  s4 : c.tenant.size ≤ 256
  s5 : c.id.size ≤ 256
  s6 : c.session.size ≤ 256
  s7 : c.nonce.size ≤ 256
  l1 : c.aud.length ≤ 16
  l2 : c.sco.length ≤ 16
  l3 : c.act.length ≤ 16
  z1 : ∀ s ∈ c.aud, s.size ≤ 256
  z2 : ∀ s ∈ c.sco, s.size ≤ 256
  z3 : ∀ s ∈ c.act, s.size ≤ 256
  i0 : 0 ≤ c.issued ∧ c.issued ≤ 1099511627776
  i1 : 0 ≤ c.nb ∧ c.nb ≤ 1099511627776
  i2 : 0 ≤ c.exp ∧ c.exp ≤ 1099511627776
  i3 : 0 ≤ c.auth ∧ c.auth ≤ 1099511627776
  i4 : 0 ≤ c.level ∧ c.level ≤ 3
theorem word_small {s : ByteArray} (h : wordS s = true) : s.size ≤ 256 := by
  rw [wordS, Bool.and_eq_true, decide_eq_true_iff] at h; omega
theorem clean_small {s : ByteArray} (h : cleanS s = true) : s.size ≤ 256 := by
  rw [cleanS, Bool.and_eq_true, Bool.and_eq_true, Bool.and_eq_true, decide_eq_true_iff] at h; omega
theorem opt_small {s : ByteArray} (h : optB s = true) : s.size ≤ 256 := by
  rw [optB, Bool.or_eq_true, decide_eq_true_iff] at h
  rcases h with h | h
  · omega
  · exact word_small h
theorem audF_words : ∀ (l pre : List ByteArray), audF pre l = 0 → ∀ s ∈ l, wordS s = true
  | [], _, _, _, h => by simp at h
  | x :: l, pre, h, s, hs => by
    rw [audF] at h
    split at h
    · rename_i hw
      split at h
      · cases h
      · rcases List.mem_cons.1 hs with rfl | hs
        · exact hw
        · exact audF_words l _ h s hs
    · cases h
theorem scoF_words : ∀ (l : List ByteArray) (o : Option ByteArray), scoF o l = 0 → ∀ s ∈ l, wordS s = true
  | [], _, _, _, h => by simp at h
  | x :: l, none, h, s, hs => by
    rw [scoF] at h
    split at h
    · rename_i hw
      rcases List.mem_cons.1 hs with rfl | hs
      · exact hw
      · exact scoF_words l _ h s hs
    · cases h
  | x :: l, some p, h, s, hs => by
    rw [scoF] at h
    split at h
    · rename_i hw
      split at h
      · rcases List.mem_cons.1 hs with rfl | hs
        · exact hw
        · exact scoF_words l _ h s hs
      · cases h
    · cases h
theorem actF_clean : ∀ (l : List ByteArray), actF l = 0 → ∀ s ∈ l, cleanS s = true
  | [], _, _, h => by simp at h
  | x :: l, h, s, hs => by
    rw [actF] at h
    split at h
    · rename_i hw
      rcases List.mem_cons.1 hs with rfl | hs
      · exact hw
      · exact actF_clean l h s hs
    · cases h
theorem check_ok {c : Cl} (h : checkE c = 0) : nameB c = true ∧ audE c.aud = 0 ∧ scoE c.sco = 0 ∧ actE c.act = 0 ∧ timeB c = true ∧ 0 ≤ c.level ∧ c.level ≤ 3 := by
  rw [checkE] at h
  split at h
  · rename_i hn
    split at h
    · rename_i hl
      split at h
      · rename_i ht
        split at h
        · rename_i hv
          rw [listE] at hl
          split at hl
          · rename_i ha
            split at hl
            · rename_i hs
              exact ⟨hn, ha, hs, hl, ht, hv.1, hv.2⟩
            · rename_i hs; exact absurd hl hs
          · rename_i ha; exact absurd hl ha
        · cases h
      · cases h
    · rename_i hl; exact absurd h hl
  · cases h
theorem check_small {c : Cl} (h : checkE c = 0) : ClSmall c := by
  obtain ⟨hn, ha, hs, hc, ht, hl⟩ := check_ok h
  rw [nameB] at hn
  simp only [Bool.and_eq_true] at hn
  obtain ⟨⟨⟨⟨⟨⟨⟨n0, n3⟩, n4⟩, n5⟩, n6⟩, n7⟩, n1⟩, n2⟩ := hn
  rw [timeB] at ht
  simp only [Bool.and_eq_true, validT, decide_eq_true_iff] at ht
  obtain ⟨⟨⟨⟨t0, t1⟩, t2⟩, t3⟩, _⟩ := ht
  have a1 : c.aud.length ≤ 16 ∧ audF [] c.aud = 0 := by
    rw [audE] at ha
    split at ha
    · cases ha
    · split at ha
      · cases ha
      · exact ⟨by omega, ha⟩
  have a2 : c.sco.length ≤ 16 ∧ scoF none c.sco = 0 := by
    rw [scoE] at hs
    split at hs
    · cases hs
    · exact ⟨by omega, hs⟩
  have a3 : c.act.length ≤ 4 ∧ actF c.act = 0 := by
    rw [actE] at hc
    split at hc
    · cases hc
    · exact ⟨by omega, hc⟩
  exact ⟨word_small n0, clean_small n1, clean_small n2, word_small n3, word_small n4, word_small n5, opt_small n6, opt_small n7, a1.1, a2.1, by omega, fun s hs => word_small (audF_words _ _ a1.2 s hs), fun s hs => word_small (scoF_words _ _ a2.2 s hs), fun s hs => clean_small (actF_clean _ a3.2 s hs), t0, t1, t2, t3, hl⟩
theorem ClSmall.ints {c : Cl} (h : ClSmall c) : IntsIn c := by
  obtain ⟨a1, a2⟩ := h.i0
  obtain ⟨b1, b2⟩ := h.i1
  obtain ⟨c1, c2⟩ := h.i2
  obtain ⟨d1, d2⟩ := h.i3
  obtain ⟨e1, e2⟩ := h.i4
  refine ⟨?_, ?_, ?_, ?_, ?_⟩ <;> (unfold inInt; omega)
/-- What Encode says. -/
def encE (c : Cl) : Int := if checkE c = 0 then (if 4096 < (encS c).size then 3 else 0) else checkE c
def encV (c : Cl) : ByteArray := if encE c = 0 then encS c else ⟨#[]⟩
theorem enc_bad {c : Cl} (h : checkE c ≠ 0) : encE c = checkE c ∧ encV c = ⟨#[]⟩ := by
  have e : encE c = checkE c := by rw [encE, if_neg h]
  exact ⟨e, by rw [encV, if_neg (by rw [e]; exact h)]⟩
theorem enc_long {c : Cl} (h : checkE c = 0) (hl : 4096 < (encS c).size) : encE c = 3 ∧ encV c = ⟨#[]⟩ := by
  have e : encE c = 3 := by rw [encE, if_pos h, if_pos hl]
  exact ⟨e, by rw [encV, if_neg (by rw [e]; decide)]⟩
theorem enc_good {c : Cl} (h : checkE c = 0) (hl : ¬ 4096 < (encS c).size) : encE c = 0 ∧ encV c = encS c := by
  have e : encE c = 0 := by rw [encE, if_pos h, if_neg hl]
  exact ⟨e, by rw [encV, if_pos e]⟩
theorem encE_zero {c : Cl} (h : encE c = 0) : checkE c = 0 ∧ (encS c).size ≤ 4096 ∧ encV c = encS c := by
  rw [encE] at h
  split at h
  · rename_i hc
    split at h
    · cases h
    · rename_i hl; exact ⟨hc, by omega, (enc_good hc hl).2⟩
  · rename_i hc; exact absurd h hc
theorem vals_le {c : Cl} (h : ClSmall c) : ∀ v ∈ valsS c, v.size ≤ 20000 := by
  have hj : ∀ l : List ByteArray, l.length ≤ 16 → (∀ s ∈ l, s.size ≤ 256) → (joinS l).size ≤ 20000 := fun l h1 h2 => by
    have := joinS_le l 256 h2
    have e : l.length * (3 * 256 + 1) ≤ 16 * (3 * 256 + 1) := Nat.mul_le_mul_right _ h1
    omega
  have he : ∀ s : ByteArray, s.size ≤ 256 → (escS s).size ≤ 20000 := fun s hs => by
    have := escS_size s; omega
  have hi : ∀ n : Int, inInt n → (itoaS n).size ≤ 20000 := fun n hn => by
    have := itoaS_size n hn.1 hn.2; omega
  obtain ⟨i0, i1, i2, i3, i4⟩ := h.ints
  intro v hv
  simp only [valsS, List.mem_cons, List.not_mem_nil, or_false] at hv
  rcases hv with e | e | e | e | e | e | e | e | e | e | e | e | e | e | e | e <;> subst e
  · exact he _ h.s0
  · exact he _ h.s1
  · exact he _ h.s2
  · exact he _ h.s3
  · exact he _ h.s4
  · exact he _ h.s5
  · exact he _ h.s6
  · exact he _ h.s7
  · exact hj _ h.l1 h.z1
  · exact hj _ h.l2 h.z2
  · exact hj _ h.l3 h.z3
  · exact hi _ i0
  · exact hi _ i1
  · exact hi _ i2
  · exact hi _ i3
  · exact hi _ i4
/-- The claims with a text form. -/
def IsDec (s : ByteArray) (c : Cl) : Prop := checkE c = 0 ∧ encS c = s ∧ s.size ≤ 4096
theorem isDec_of {s : ByteArray} {c : Cl} (h1 : encE c = 0) (h2 : encV c = s) : IsDec s c := by
  obtain ⟨a, b, d⟩ := encE_zero h1
  rw [d] at h2
  exact ⟨a, h2, h2 ▸ b⟩
theorem isDec_enc {s : ByteArray} {c : Cl} (h : IsDec s c) : encE c = 0 ∧ encV c = s := by
  obtain ⟨a, b, d⟩ := h
  obtain ⟨e1, e2⟩ := enc_good a (by rw [b]; omega)
  exact ⟨e1, e2.trans b⟩
/-- The values, as the program reads them. -/
def valsP (s : ByteArray) (i : Nat) : ByteArray := valP (keysS.getD i ⟨#[]⟩) ((cutsS s 10).getD i ⟨#[]⟩)
theorem isDec_p {s : ByteArray} {c : Cl} (h : IsDec s c) : (cutsS s 10).length = 17 ∧ decC (valsP s) = c := by
  obtain ⟨a, b, d⟩ := h
  obtain ⟨e1, e2⟩ := cuts_lines keysS (valsS c) s (by rw [← b]; rfl) rfl keys_nl (vals_nl c)
  refine ⟨e1, decC_vals c (check_small a).ints _ (fun i hi => ?_)⟩
  rw [keysS_len] at e1
  have h16 : i < 16 := hi
  have hk : i < keysS.length := hi
  have hc : i < (cutsS s 10).length := by omega
  have := e2 i hk hi hc
  rw [valsP, List.getD_eq_getElem?_getD, List.getD_eq_getElem?_getD, List.getElem?_eq_getElem hk, List.getElem?_eq_getElem hc, Option.getD_some, Option.getD_some]
  exact this
/-- The reference's values. -/
def valsR (vs : List ByteArray) (i : Nat) : ByteArray := vs.getD i ⟨#[]⟩
theorem isDec_r {s : ByteArray} {c : Cl} (h : IsDec s c) : splR keysS s.data.toList = some (valsS c) ∧ decC (valsR (valsS c)) = c := by
  obtain ⟨a, b, d⟩ := h
  refine ⟨by rw [← b]; exact spl_lines keysS (valsS c) rfl keys_nl (vals_nl c), decC_vals c (check_small a).ints _ (fun i hi => ?_)⟩
  rw [valsR, List.getD_eq_getElem?_getD, List.getElem?_eq_getElem hi, Option.getD_some]
theorem isDec_inj {s : ByteArray} {c d : Cl} (h1 : IsDec s c) (h2 : IsDec s d) : c = d := (isDec_p h1).2.symm.trans (isDec_p h2).2
theorem encS_inj {c d : Cl} (h1 : checkE c = 0) (h2 : checkE d = 0) (h : encS c = encS d) : c = d := by
  have a := cuts_lines keysS (valsS c) (encS c) rfl rfl keys_nl (vals_nl c)
  have e1 : splR keysS (encS c).data.toList = some (valsS c) := spl_lines keysS (valsS c) rfl keys_nl (vals_nl c)
  have e2 : splR keysS (encS d).data.toList = some (valsS d) := spl_lines keysS (valsS d) rfl keys_nl (vals_nl d)
  rw [h, e2] at e1
  injection e1 with e1
  have f1 : decC (valsR (valsS c)) = c := decC_vals c (check_small h1).ints _ (fun i hi => by
    rw [valsR, List.getD_eq_getElem?_getD, List.getElem?_eq_getElem hi, Option.getD_some])
  have f2 : decC (valsR (valsS d)) = d := decC_vals d (check_small h2).ints _ (fun i hi => by
    rw [valsR, List.getD_eq_getElem?_getD, List.getElem?_eq_getElem hi, Option.getD_some])
  rw [← f1, ← e1, f2]
/-- What Decode says when it fails. -/
def decE (s : ByteArray) : Int := if 4096 < s.size then 3 else 4
def cl0 : Cl := ⟨⟨#[]⟩, ⟨#[]⟩, ⟨#[]⟩, ⟨#[]⟩, ⟨#[]⟩, ⟨#[]⟩, ⟨#[]⟩, ⟨#[]⟩, [], [], [], 0, 0, 0, 0, 0⟩
def p30 : P3 := ⟨none, 0, none, 0, none, 0⟩
end Go.Proofs.YtiiioefjdebggaaGreatDoor

/- Claims by value: boxed, loaded and stored whole. -/
namespace Go.Proofs.YtiiioefjdebggaaGreatDoor
open Go.RowKit

/-- The cells of claims. -/
def clA (c : Cl) (p : P3) : Array Value := #[.string c.kind, .string c.issuer, .string c.subject, .string c.client, .string c.tenant, .string c.id, .string c.session, .string c.nonce, .slice p.a1 c.aud.length p.c1, .slice p.a2 c.sco.length p.c2, .slice p.a3 c.act.length p.c3, .int .i64 c.issued, .int .i64 c.nb, .int .i64 c.exp, .int .i64 c.auth, .int .i64 c.level]
theorem clV_eq (c : Cl) (p : P3) : clV c p = .agg (clA c p) := rfl
theorem clO_eq (c : Cl) (p : P3) : clO c p = .cells (clA c p) 25 (0, 0) := rfl
theorem clA_size (c : Cl) (p : P3) : (clA c p).size = 16 := rfl
theorem cl_size : (Tryz.prog.info? 25).map (·.size) = some 16 := by kernel_rfl
theorem clA_one (c : Cl) (p : P3) : (clA c p).all (·.oneCell') = true := by simp [clA, Value.oneCell']
theorem cl_built : Tryz.prog.built 25 [] = some (clA cl0 p30) := by kernel_rfl
section
variable {ops : Array Oper} {rest : List Oper} {o : Oper} {a : Act} {w : World} {Q : Exit → Act → World → Prop}
theorem box_cl (hg : o.guard = none) (t : TypeId) (ht : t = 25) (x : Operand) (ho : o.op = .box t x) (c : Cl) (p : P3) (hx : a.eval x = clV c p)
    (h : wpList Tryz.prog ops Q rest (a.put o.dst (.pointer (some ⟨w.heap.size, 0, none⟩))) (w.alloc (clO c p))) : wpList Tryz.prog ops Q (o :: rest) a w := by
  subst ht
  refine wpList_plain hg fun K hK => ?_
  unfold Oper.wp execOp
  simp only [ho, hx, Sem.run_bind, Instr.box, newVar, newRow, run_newObj_alloc, Sem.run_pure, Result.andThen_ok]
  exact hK _ _ h
theorem load_cl (hg : o.guard = none) (t : TypeId) (ht : t = 25) (x : Operand) (ho : o.op = .load t x) (b : Nat) (hx : a.eval x = .pointer (some ⟨b, 0, none⟩)) (c : Cl) (p : P3) (hX : Hid (ClBox w b c p))
    (h : wpList Tryz.prog ops Q rest (a.put o.dst (clV c p)) w) : wpList Tryz.prog ops Q (o :: rest) a w := by
  subst ht
  exact wpList_load_row hg 25 x ho b hx 25 (clA c p) (0, 0) _ hX.out Tryz.underlying25 rfl (by rw [clA_size]; exact cl_size) h
theorem store_cl (hg : o.guard = none) (t : TypeId) (ht : t = 25) (x y : Operand) (ho : o.op = .store t x y) (b : Nat) (hx : a.eval x = .pointer (some ⟨b, 0, none⟩)) (c : Cl) (p : P3) (hy : a.eval y = clV c p) (c0 : Cl) (p0 : P3) (hX : Hid (ClBox w b c0 p0))
    (h : wpList Tryz.prog ops Q rest (a.put o.dst undef) (w.setRow b (clA c p))) : wpList Tryz.prog ops Q (o :: rest) a w := by
  subst ht
  exact wpList_store_row hg 25 x y ho b (clA c p) hx hy 25 (clA c0 p0) hX.out (by rw [clA_size]; exact cl_size) rfl (clA_one c p) h
theorem build_cl (hg : o.guard = none) (t : TypeId) (ht : t = 25) (ho : o.op = .build t #[])
    (h : wpList Tryz.prog ops Q rest (a.put o.dst (clV cl0 p30)) w) : wpList Tryz.prog ops Q (o :: rest) a w := by
  subst ht
  have e : ((Tryz.prog.built 25 ((#[] : Array (Nat × Operand)).map fun (i, x) => (i, a.eval x)).toList)) = some (clA cl0 p30) := by
    have : ((#[] : Array (Nat × Operand)).map fun (i, x) => (i, a.eval x)).toList = [] := by simp
    rw [this]; exact cl_built
  exact wpList_build hg 25 #[] ho (by rw [e]; rfl) (by rw [e]; exact h)
theorem alloc_cl (hg : o.guard = none) (t : TypeId) (ht : t = 25) (ho : o.op = .alloc t)
    (h : wpList Tryz.prog ops Q rest (a.put o.dst (.pointer (some ⟨w.heap.size, 0, none⟩))) (w.alloc (clO cl0 p30))) : wpList Tryz.prog ops Q (o :: rest) a w := by
  subst ht
  refine wpList_plain hg fun K hK => ?_
  have hr : (Instr.alloc 25 true (.tuple #[])).run Tryz.prog w = .ok (.pointer (some ⟨w.heap.size, 0, none⟩)) (w.alloc (clO cl0 p30)) := by
    have hz : (zeroValue 25).run Tryz.prog w = .ok (clV cl0 p30) w := Tryz.zeroValue25 w
    simp only [Instr.alloc, Sem.run_bind, hz, newVar, newRow, run_newObj_alloc, Sem.run_pure, Result.andThen_ok]
    rfl
  unfold Oper.wp execOp
  simp only [ho, Sem.run_bind, hr, Sem.run_pure, Result.andThen_ok]
  exact hK _ _ h
end
theorem res_cl {fn : Func} {r u : Tmp} (h : fn.results = #[.cell r 25, .tmp u]) (tmps : Array Value) (w : World) (b : Nat) (c : Cl) (p : P3) (v : Value) (hr : tmps.getD r undef = .pointer (some ⟨b, 0, none⟩)) (hX : ClBox w b c p) (hu : tmps.getD u undef = v) :
    (results fn tmps).run Tryz.prog w = .ok (.tuple #[clV c p, v]) w := by
  rw [results_cell_tmp h, hr, hu]
  have hl : (loadVar 25 ⟨b, 0, none⟩).run Tryz.prog w = .ok (.agg (clA c p)) w := run_loadVar_row w b 25 25 (clA c p) (0, 0) _ hX Tryz.underlying25 rfl (by rw [clA_size]; exact cl_size)
  simp only [asAddr, Sem.run_pure, Result.andThen_ok, hl]
  rfl
theorem ret_cl {fn : Func} {r : Tmp} (h : fn.results = #[.cell r 25]) (tmps : Array Value) (w : World) (b : Nat) (c : Cl) (p : P3) (hr : tmps.getD r undef = .pointer (some ⟨b, 0, none⟩)) (hX : ClBox w b c p) :
    (results fn tmps).run Tryz.prog w = .ok (clV c p) w := results_cell_row h tmps w b 25 (clA c p) (0, 0) _ hr hX Tryz.underlying25 rfl (by rw [clA_size]; exact cl_size)
theorem ClBox.set {w : World} {b : Nat} {c0 c : Cl} {p0 p : P3} (h : ClBox w b c0 p0) : ClBox (w.setRow b (clA c p)) b c p := setRow_heap w b _ _ _ _ h
end Go.Proofs.YtiiioefjdebggaaGreatDoor

/- The lines of claims: the closure and its loops. -/
namespace Go.Proofs.YtiiioefjdebggaaGreatDoor
open Go.RowKit

/-- The keys, in their variable. -/
def keyCells : Array Value := (keysS.map Value.string).toArray
def KeysOk (w : World) : Prop := ∃ t fr, w.heap[1]? = some (.cells keyCells t fr)
theorem KeysOk.lt {w : World} (h : KeysOk w) : 1 < w.heap.size := by
  obtain ⟨t, fr, h⟩ := h
  exact (Array.getElem?_eq_some_iff.1 h).1
theorem KeysOk.below {w w' : World} (h : KeysOk w) (hb : Below w.heap.size w w') : KeysOk w' := by
  have hl := h.lt
  obtain ⟨t, fr, h⟩ := h
  exact ⟨t, fr, (hb.block _ hl).trans h⟩
theorem KeysOk.cell {w : World} (h : KeysOk w) (i : Nat) (hi : i < 16) : w.cell? ⟨1, i, none⟩ = some (.string (keysS[i]'hi)) := by
  obtain ⟨t, fr, h⟩ := h
  rw [cell_of_row w _ i _ _ _ h]
  show (keysS.map Value.string).toArray[i]? = _
  rw [List.getElem?_toArray, List.getElem?_map, List.getElem?_eq_getElem (show i < keysS.length from hi)]
  rfl
set_option maxHeartbeats 1000000 in
theorem line1_any (i : Nat) (hi : i < 16) (v : ByteArray) (B b : Nat) (l : List UInt8) (w : World) (hk : KeysOk w) (h : Bld B b l w) (hlen : l.length + v.size ≤ 1000000) (hBw : B ≤ w.heap.size) :
    Calls Tryz.prog 125 #[.int .i64 i, .string v, .pointer (some ⟨b, 0, none⟩)] w fun e w' => e = .returned (.tuple #[]) ∧ (Bld B b (l ++ lineL (keysS[i]'hi) v) w' ∧ Below B w w') := by
  have hc := hk.cell i hi
  have hks := keys_len _ (List.getElem_mem (l := keysS) hi)
  obtain ⟨k, HK⟩ : ∃ k, Hid (keysS[i]'hi = k) := ⟨_, Lib.hid rfl⟩
  rw [HK.out] at hc hks
  rw [HK.out]
  have f1 : (0 : Int) ≤ (i : Int) := by omega
  have f2 : (i : Int) < 16 := by omega
  have HL : Hid ((k ++ ⟨#[61]⟩ ++ v ++ ⟨#[10]⟩ : ByteArray).data.toList = lineL k v) := Lib.hid (by simp [lineL])
  have HZ : Hid ((k ++ ⟨#[61]⟩ ++ v ++ ⟨#[10]⟩ : ByteArray).size ≤ 1000020) := Lib.hid (by
    rw [ByteArray.size_append, ByteArray.size_append, ByteArray.size_append, show (⟨#[61]⟩ : ByteArray).size = 1 from rfl, show (⟨#[10]⟩ : ByteArray).size = 1 from rfl]; omega)
  go_enter Tryz.func125, Tryz.ntmps125
  go_wp2_with fail
  obtain ⟨X, HX⟩ : ∃ X, Hid ((k ++ ⟨#[61]⟩ ++ v ++ ⟨#[10]⟩ : ByteArray) = X) := ⟨_, Lib.hid rfl⟩
  rw [HX.out] at HL HZ
  rw [HX.out]
  refine (writeString_any B b l X w h (by have := HZ.out; omega) hBw).mono ?_
  rintro e w1 ⟨rfl, h1, h2⟩
  rw [HL.out] at h1
  have H1 := Lib.hid (And.intro h1 h2)
  clear h1 h2
  go_wp2_with fail
  go_end0
  exact ⟨rfl, H1.out⟩
theorem Bld.below {B b : Nat} {l : List UInt8} {w w' : World} (h : Bld B b l w) (hb : Below w.heap.size w w') : Bld B b l w' := by
  have one : ∀ p, Lib.BuilderAt 118 5 B b p (Lib.byteCells l) w → Lib.BuilderAt 118 5 B b p (Lib.byteCells l) w' := fun p h => by
    have hlt := h.lt
    obtain ⟨hB, v, hv, hown, hne⟩ := h
    exact ⟨hB, v, (hb.block b hlt).trans hv, own_below hown hb, hne⟩
  rcases h with h | h
  · exact .inl (one _ h)
  · exact .inr (one _ h)
theorem vals_str (c : Cl) (k : Nat) (hk : k < 8) : (valsS c)[k]'(show k < 16 by omega) = escS (strAt c k) := by
  rcases k with _|_|_|_|_|_|_|_|k <;> first | omega | rfl
theorem vals_lst (c : Cl) (k : Nat) (hk : k < 3) : (valsS c)[8 + k]'(show 8 + k < 16 by omega) = joinS (lstAt c k) := by
  rcases k with _|_|_|k <;> first | omega | rfl
theorem vals_num (c : Cl) (k : Nat) (hk : k < 5) : (valsS c)[11 + k]'(show 11 + k < 16 by omega) = itoaS (numAt c k) := by
  rcases k with _|_|_|_|_|k <;> first | omega | rfl
theorem ClSmall.str {c : Cl} (h : ClSmall c) (k : Nat) : (strAt c k).size ≤ 256 := by
  obtain ⟨s0, s1, s2, s3, s4, s5, s6, s7, _⟩ := h
  rcases k with _|_|_|_|_|_|_|_|k <;> first | assumption | (show (0 : Nat) ≤ _; omega)
theorem ClSmall.num {c : Cl} (h : ClSmall c) (k : Nat) (hk : k < 5) : 0 ≤ numAt c k ∧ numAt c k ≤ 1099511627776 := by
  obtain ⟨_, _, _, _, _, _, _, _, _, _, _, _, _, _, i0, i1, i2, i3, i4⟩ := h
  rcases k with _|_|_|_|_|k
  · exact i0
  · exact i1
  · exact i2
  · exact i3
  · exact ⟨i4.1, by show c.level ≤ _; omega⟩
  · omega
theorem ClSmall.lst {c : Cl} (h : ClSmall c) (k : Nat) : (lstAt c k).length ≤ 16 ∧ ∀ s ∈ lstAt c k, s.size ≤ 256 := by
  rcases k with _|_|_|k
  · exact ⟨h.l1, h.z1⟩
  · exact ⟨h.l2, h.z2⟩
  · exact ⟨h.l3, h.z3⟩
  · exact ⟨by show (0 : Nat) ≤ 16; omega, fun s hs => by simp [lstAt] at hs⟩
/-- The first k lines. -/
def enc0 (c : Cl) (k : Nat) : List UInt8 := linesL (keysS.take k) ((valsS c).take k)
theorem enc0_next (c : Cl) (k : Nat) (hk : k < 16) : enc0 c (k + 1) = enc0 c k ++ lineL (keysS[k]'hk) ((valsS c)[k]'hk) := lines_take keysS (valsS c) k hk hk
theorem enc0_str (c : Cl) (k : Nat) (hk : k < 8) : enc0 c (k + 1) = enc0 c k ++ lineL (keysS[k]'(show k < 16 by omega)) (escS (strAt c k)) := by rw [enc0_next c k (by omega), vals_str c k hk]
theorem enc0_lst (c : Cl) (k : Nat) (hk : k < 3) : enc0 c (8 + k + 1) = enc0 c (8 + k) ++ lineL (keysS[8 + k]'(show 8 + k < 16 by omega)) (joinS (lstAt c k)) := by rw [enc0_next c (8 + k) (by omega), vals_lst c k hk]
theorem enc0_num (c : Cl) (k : Nat) (hk : k < 5) : enc0 c (11 + k + 1) = enc0 c (11 + k) ++ lineL (keysS[11 + k]'(show 11 + k < 16 by omega)) (itoaS (numAt c k)) := by rw [enc0_next c (11 + k) (by omega), vals_num c k hk]
theorem enc0_len {c : Cl} (h : ClSmall c) (k : Nat) : (enc0 c k).length ≤ 700000 := by
  have hk : (keysS.take k).length ≤ 16 := by rw [List.length_take, keysS_len]; omega
  have := lines_len 20000 (keysS.take k) ((valsS c).take k) (fun x hx => by have := keys_len x (List.mem_of_mem_take hx); omega) (fun x hx => vals_le h x (List.mem_of_mem_take hx))
  have e : (keysS.take k).length * (2 * 20000 + 2) ≤ 16 * (2 * 20000 + 2) := Nat.mul_le_mul_right _ hk
  rw [enc0]; omega
theorem enc0_all (c : Cl) : (⟨(enc0 c 16).toArray⟩ : ByteArray) = encS c := rfl
theorem line1_cast (j : Int) (i : Nat) (hj : (i : Int) = j) (hi : i < 16) (v : ByteArray) (B b : Nat) (l : List UInt8) (w : World) (hk : KeysOk w) (h : Bld B b l w) (hlen : l.length + v.size ≤ 1000000) (hBw : B ≤ w.heap.size) :
    Calls Tryz.prog 125 #[.int .i64 j, .string v, .pointer (some ⟨b, 0, none⟩)] w fun e w' => e = .returned (.tuple #[]) ∧ (Bld B b (l ++ lineL (keysS[i]'hi) v) w' ∧ Below B w w') := by
  subst hj; exact line1_any i hi v B b l w hk h hlen hBw
set_option maxHeartbeats 8000000 in
set_option maxRecDepth 100000 in
theorem lines_any (c : Cl) (p : P3) (w : World) (hs : ClSmall c) (hC : ClAt w c p) (hk : KeysOk w) (hp : PowOk w) :
    Calls Tryz.prog 83 #[clV c p] w fun e w' => e = .returned (.string (encS c)) ∧ Below w.heap.size w w' := by
  have hmf : ∀ (fn : Fn) (first cap : Array Value) (w : World), (Instr.makeFunc fn first cap).run Tryz.prog w = .ok (.func fn first cap) w := fun _ _ _ _ => rfl
  have B1 : Hid (Below w.heap.size w (w.alloc (clO c p))) := Lib.hid ((Below.refl _ _).alloc (Nat.le_refl _) _)
  have X1 : Hid (ClBox (w.alloc (clO c p)) w.heap.size c p) := Lib.hid (ClBox.new w c p)
  have D1 := Lib.hid (Bld.fresh (w.alloc (clO c p)))
  have HS := Lib.hid hs
  have HC := Lib.hid hC
  have HK := Lib.hid hk
  have HP := Lib.hid hp
  clear hs hC hk hp
  go_enter Tryz.func83, Tryz.ntmps83
  go_wp2_with (first | (refine box_cl rfl _ rfl _ rfl c p rfl ?_) | fail)
  refine (texts_any w.heap.size _).mono ?_
  rintro e w1 ⟨rfl, hb1⟩
  have B2 : Hid (Below w.heap.size w w1) := Lib.hid ((B1.out.alloc B1.out.size _).trans (hb1.mono (by simp; omega)))
  have X2 : Hid (ClBox w1 w.heap.size c p) := Lib.hid ((X1.out.below ((Below.refl _ _).alloc (Nat.le_refl _) _)).below hb1)
  have D2 : Hid (Bld (w.heap.size + 1) (w.heap.size + 1) [] w1) := Lib.hid (by have h := D1.out.below hb1; simpa using h)
  have hz1 : w.heap.size + 1 ≤ w1.heap.size := by have := hb1.size; simp at this; omega
  clear B1 X1 D1 hb1
  go_wp2_with fail
  go_loopw [13] (fun i wr => ∃ k : Nat, k ≤ 8 ∧ i = .int .i64 k ∧ Hid (Bld (w.heap.size + 1) (w.heap.size + 1) (enc0 c k) wr) ∧ Hid (ClBox wr w.heap.size c p) ∧ Hid (Below w.heap.size w wr) ∧ w.heap.size + 1 ≤ wr.heap.size) (fun i _ => 8 - (intOf i).toNat)
  case atStart => exact ⟨0, Nat.zero_le _, rfl, D2, X2, B2, hz1⟩
  case round =>
    obtain ⟨k, hk, rfl, D3, X3, B3, hz3⟩ := hrel
    by_cases hlt : k < 8
    · have hidx := fun W => idx_texts w.heap.size k hlt W
      have hcell := X3.out.str k hlt
      have hxz := HS.out.str k
      have HNX := Lib.hid (enc0_str c k hlt)
      obtain ⟨x, HX⟩ : ∃ x, Hid (strAt c k = x) := ⟨_, Lib.hid rfl⟩
      rw [HX.out] at hcell hxz HNX
      have hez := escS_size x
      have HEL := Lib.hid (enc0_len HS.out k)
      go_wp2_with fail
      refine (esc_any x _ (by omega)).mono ?_
      rintro e w4 ⟨rfl, hb4⟩
      have B4 := Lib.hid (bthen B3.out hb4)
      have X4 := Lib.hid (X3.out.below hb4)
      have D4 := Lib.hid (D3.out.below hb4)
      have hz4 : w.heap.size + 1 ≤ w4.heap.size := by have := hb4.size; omega
      clear hb4 hcell hidx
      obtain ⟨y, HY⟩ : ∃ y, Hid (escS x = y) := ⟨_, Lib.hid rfl⟩
      rw [HY.out] at hez HNX
      rw [HY.out]
      go_wp2_with fail
      refine (line1_any k (by omega) y (w.heap.size + 1) (w.heap.size + 1) (enc0 c k) _ (HK.out.below B4.out) D4.out (by have := HEL.out; omega) hz4).mono ?_
      rintro e w5 ⟨rfl, h5, hb5⟩
      have B5 := Lib.hid (B4.out.trans (hb5.mono (by omega)))
      have X5 : Hid (ClBox w5 w.heap.size c p) := Lib.hid ((hb5.block w.heap.size (by omega)).trans X4.out)
      have D5 : Hid (Bld (w.heap.size + 1) (w.heap.size + 1) (enc0 c (k + 1)) w5) := Lib.hid (by rw [HNX.out]; exact h5)
      have hz5 : w.heap.size + 1 ≤ w5.heap.size := by have := hb5.size; omega
      clear h5 hb5
      go_wp2_with fail
      go_roundw
      case rel => exact ⟨k + 1, hlt, by go_num, D5, X5, B5, hz5⟩
      case measure => simp [intOf]; omega
    · obtain rfl : k = 8 := by omega
      clear B2 X2 D2
      go_wp2_with fail
      refine (lists_any w.heap.size _).mono ?_
      rintro e wb1 ⟨rfl, hbb1⟩
      have Bb2 : Hid (Below w.heap.size w wb1) := Lib.hid (bthen B3.out hbb1)
      have Xb2 : Hid (ClBox wb1 w.heap.size c p) := Lib.hid (X3.out.below hbb1)
      have Db2 : Hid (Bld (w.heap.size + 1) (w.heap.size + 1) (enc0 c 8) wb1) := Lib.hid (D3.out.below hbb1)
      have hzb1 : w.heap.size + 1 ≤ wb1.heap.size := by have := hbb1.size; omega
      clear hbb1 B3 X3 D3 hz3 hlt
      go_wp2_with fail
      go_loopw [26] (fun i wr => ∃ k : Nat, k ≤ 3 ∧ i = .int .i64 k ∧ Hid (Bld (w.heap.size + 1) (w.heap.size + 1) (enc0 c (8 + k)) wr) ∧ Hid (ClBox wr w.heap.size c p) ∧ Hid (Below w.heap.size w wr) ∧ w.heap.size + 1 ≤ wr.heap.size) (fun i _ => 3 - (intOf i).toNat)
      case atStart => exact ⟨0, Nat.zero_le _, rfl, Db2, Xb2, Bb2, hzb1⟩
      case round =>
        obtain ⟨k, hk, rfl, D3, X3, B3, hz3⟩ := hrel
        by_cases hlt : k < 3
        · have hidx := fun W => idx_lists w.heap.size k hlt W
          have hcell := X3.out.lst k hlt
          have hlz := HS.out.lst k
          obtain ⟨hl1, hl2⟩ := hlz
          have HNX := Lib.hid (enc0_lst c k hlt)
          have HSA := Lib.hid ((HC.out.below B3.out).lst k hlt)
          have hez : (joinS (lstAt c k)).size ≤ 20000 := by
            have := joinS_le (lstAt c k) 256 hl2
            have e : (lstAt c k).length * (3 * 256 + 1) ≤ 16 * (3 * 256 + 1) := Nat.mul_le_mul_right _ hl1
            omega
          have HZ2 : Hid (∀ s ∈ lstAt c k, s.size ≤ 300000) := Lib.hid (fun s hs => by have := hl2 s hs; omega)
          clear hl2
          obtain ⟨x, HX⟩ : ∃ x, Hid (lstAt c k = x) := ⟨_, Lib.hid rfl⟩
          obtain ⟨A, HA⟩ : ∃ A, Hid (adrAt p k = A) := ⟨_, Lib.hid rfl⟩
          obtain ⟨cp, HCP⟩ : ∃ cp, Hid (capAt p k = cp) := ⟨_, Lib.hid rfl⟩
          rw [HX.out, HA.out, HCP.out] at hcell
          rw [HX.out] at hl1 HNX hez HSA HZ2
          rw [HA.out] at HSA
          have HEL := Lib.hid (enc0_len HS.out (8 + k))
          go_wp2_with fail
          refine (cjoin_any x A cp _ HSA.out (by omega) HZ2.out).mono ?_
          rintro e w4 ⟨rfl, hb4⟩
          have B4 := Lib.hid (bthen B3.out hb4)
          have X4 := Lib.hid (X3.out.below hb4)
          have D4 := Lib.hid (D3.out.below hb4)
          have hz4 : w.heap.size + 1 ≤ w4.heap.size := by have := hb4.size; omega
          clear hb4 hcell hidx
          obtain ⟨y, HY⟩ : ∃ y, Hid (joinS x = y) := ⟨_, Lib.hid rfl⟩
          rw [HY.out] at hez HNX
          rw [HY.out]
          go_wp2_with fail
          refine (line1_cast _ (8 + k) (by omega) (by omega) y (w.heap.size + 1) (w.heap.size + 1) (enc0 c (8 + k)) _ (HK.out.below B4.out) D4.out (by have := HEL.out; omega) hz4).mono ?_
          rintro e w5 ⟨rfl, h5, hb5⟩
          have B5 := Lib.hid (B4.out.trans (hb5.mono (by omega)))
          have X5 : Hid (ClBox w5 w.heap.size c p) := Lib.hid ((hb5.block w.heap.size (by omega)).trans X4.out)
          have D5 : Hid (Bld (w.heap.size + 1) (w.heap.size + 1) (enc0 c (8 + (k + 1))) w5) := Lib.hid (by rw [show 8 + (k + 1) = 8 + k + 1 by omega, HNX.out]; exact h5)
          have hz5 : w.heap.size + 1 ≤ w5.heap.size := by have := hb5.size; omega
          clear h5 hb5
          go_wp2_with fail
          go_roundw
          case rel => exact ⟨k + 1, hlt, by go_num, D5, X5, B5, hz5⟩
          case measure => simp [intOf]; omega
        · obtain rfl : k = 3 := by omega
          clear Bb2 Xb2 Db2
          go_wp2_with fail
          refine (numbers_any w.heap.size _).mono ?_
          rintro e wc1 ⟨rfl, hbc1⟩
          have Bc2 : Hid (Below w.heap.size w wc1) := Lib.hid (bthen B3.out hbc1)
          have Xc2 : Hid (ClBox wc1 w.heap.size c p) := Lib.hid (X3.out.below hbc1)
          have Dc2 : Hid (Bld (w.heap.size + 1) (w.heap.size + 1) (enc0 c 11) wc1) := Lib.hid (D3.out.below hbc1)
          have hzc1 : w.heap.size + 1 ≤ wc1.heap.size := by have := hbc1.size; omega
          clear hbc1 B3 X3 D3 hz3 hlt
          go_wp2_with fail
          go_loopw [40] (fun i wr => ∃ k : Nat, k ≤ 5 ∧ i = .int .i64 k ∧ Hid (Bld (w.heap.size + 1) (w.heap.size + 1) (enc0 c (11 + k)) wr) ∧ Hid (ClBox wr w.heap.size c p) ∧ Hid (Below w.heap.size w wr) ∧ w.heap.size + 1 ≤ wr.heap.size) (fun i _ => 5 - (intOf i).toNat)
          case atStart => exact ⟨0, Nat.zero_le _, rfl, Dc2, Xc2, Bc2, hzc1⟩
          case round =>
            obtain ⟨k, hk, rfl, D3, X3, B3, hz3⟩ := hrel
            by_cases hlt : k < 5
            · have hidx := fun W => idx_numbers w.heap.size k hlt W
              have hcell := X3.out.num k hlt
              have hn := HS.out.num k hlt
              obtain ⟨hn1, hn2⟩ := hn
              have HNX := Lib.hid (enc0_num c k hlt)
              obtain ⟨x, HX⟩ : ∃ x, Hid (numAt c k = x) := ⟨_, Lib.hid rfl⟩
              rw [HX.out] at hcell hn1 hn2 HNX
              have hez := itoaS_size x (by omega) (by omega)
              have HEL := Lib.hid (enc0_len HS.out (11 + k))
              go_wp2_with fail
              refine (cint_any x _ (by omega) (by omega) (HP.out.below B3.out)).mono ?_
              rintro e w4 ⟨rfl, hb4⟩
              have B4 := Lib.hid (bthen B3.out hb4)
              have X4 := Lib.hid (X3.out.below hb4)
              have D4 := Lib.hid (D3.out.below hb4)
              have hz4 : w.heap.size + 1 ≤ w4.heap.size := by have := hb4.size; omega
              clear hb4 hcell hidx
              obtain ⟨y, HY⟩ : ∃ y, Hid (itoaS x = y) := ⟨_, Lib.hid rfl⟩
              rw [HY.out] at hez HNX
              rw [HY.out]
              go_wp2_with fail
              refine (line1_cast _ (11 + k) (by omega) (by omega) y (w.heap.size + 1) (w.heap.size + 1) (enc0 c (11 + k)) _ (HK.out.below B4.out) D4.out (by have := HEL.out; omega) hz4).mono ?_
              rintro e w5 ⟨rfl, h5, hb5⟩
              have B5 := Lib.hid (B4.out.trans (hb5.mono (by omega)))
              have X5 : Hid (ClBox w5 w.heap.size c p) := Lib.hid ((hb5.block w.heap.size (by omega)).trans X4.out)
              have D5 : Hid (Bld (w.heap.size + 1) (w.heap.size + 1) (enc0 c (11 + (k + 1))) w5) := Lib.hid (by rw [show 11 + (k + 1) = 11 + k + 1 by omega, HNX.out]; exact h5)
              have hz5 : w.heap.size + 1 ≤ w5.heap.size := by have := hb5.size; omega
              clear h5 hb5
              go_wp2_with fail
              go_roundw
              case rel => exact ⟨k + 1, hlt, by go_num, D5, X5, B5, hz5⟩
              case measure => simp [intOf]; omega
            · obtain rfl : k = 5 := by omega
              clear Bc2 Xc2 Dc2
              go_wp2_with fail
              refine (bldString_any (w.heap.size + 1) (w.heap.size + 1) _ _ D3.out hz3).mono ?_
              rintro e w6 ⟨rfl, hb6⟩
              have B6 := Lib.hid (B3.out.trans (hb6.mono (by omega)))
              clear hb6
              go_wp2_with fail
              go_ret
              exact ⟨rfl, B6.out⟩
end Go.Proofs.YtiiioefjdebggaaGreatDoor

