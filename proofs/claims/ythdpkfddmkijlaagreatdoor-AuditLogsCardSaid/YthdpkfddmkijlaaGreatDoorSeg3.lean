/- Joined: CodSJoin, CodBetween, CodJoin, CodRJoin, CodSplit, CodLen0, FoldWord, Clock, AudPlain, AudOpen, RefWord. -/
import Derived.Test.YthdpkfddmkijlaaGreatDoorSeg2
import Derived.Test.YthdpkfddmkijlaaGreatDoorSeg1
import Derived.Deep.AppendLies
/- strings.Join with a separator of one byte. -/
namespace Go.Proofs.YthdpkfddmkijlaaGreatDoor
open Go.RowKit

theorem div_big (n : Nat) (h : n ≤ 1000000) (h2 : 2 ≤ n) : ¬ 9223372036854775807 / ((n : Int) - 1) ≤ 1 := by
  have h1 : 0 < (n : Int) - 1 := by omega
  have : 2 ≤ 9223372036854775807 / ((n : Int) - 1) := (Int.le_ediv_iff_mul_le h1).2 (by omega)
  omega
set_option maxHeartbeats 2000000 in
set_option maxRecDepth 100000 in
theorem sjoin_any (l : List ByteArray) (c : UInt8) (A : Option Addr) (cap : Nat) (w : World) (hS : Strs w A l) (hl : l.length ≤ 1000000) (hcap : l.length ≤ cap) (hz : ∀ s ∈ l, s.size ≤ 1000000) :
    Calls Tryz.prog 77 #[.slice A l.length cap, .string ⟨#[c]⟩] w fun e w' => e = .returned (.string (joinC c l)) ∧ Below w.heap.size w w' := by
  go_enter Tryz.func77, Tryz.ntmps77
  by_cases h0 : l.length = 0
  · have he : l = [] := List.eq_nil_of_length_eq_zero h0
    subst he
    have HJ := Lib.hid (joinC_nil c)
    go_wp2_with fail
    go_ret
    exact ⟨ret_str HJ.out.symm, Below.refl _ _⟩
  · by_cases h1 : l.length = 1
    · have hlt : 0 < l.length := by omega
      obtain ⟨b, o, rfl, hcell⟩ := hS 0 hlt
      have hc0 : w.cell? ⟨b, o, none⟩ = some (.string l[0]) := by simpa using hcell
      have HJ : Hid (joinC c l = l[0]) := by
        show _ = _
        match l, h1 with
        | [s], _ => exact joinC_one c s
      have hb0 : ((l.length : Int) == 0) = false := by rw [beq_eq_false_iff_ne]; omega
      have hb1 : ((l.length : Int) == 1) = true := by rw [beq_iff_eq]; omega
      clear hcell h0 h1
      go_wp2_with fail
      go_ret
      exact ⟨ret_str HJ.out.symm, Below.refl _ _⟩
    · have hb0 : ((l.length : Int) == 0) = false := by rw [beq_eq_false_iff_ne]; omega
      have hb1 : ((l.length : Int) == 1) = false := by rw [beq_eq_false_iff_ne]; omega
      have hn2 : 2 ≤ l.length := by omega
      have hdv := div_big l.length hl hn2
      clear h0 h1
      go_wp2_with fail
      go_loop [5, 7, 41] (fun n _ j => ∃ k m : Nat, k ≤ l.length ∧ j = .int .i64 k ∧ n = .int .i64 m ∧ m ≤ 1000000 + k * 1000000) (fun _ _ i => l.length - (intOf i).toNat)
      case atStart => exact ⟨0, l.length - 1, Nat.zero_le _, rfl, by rw [Int.ofNat_sub (by omega)]; rfl, by omega⟩
      case round =>
        obtain ⟨k, m, hk, rfl, rfl, hm⟩ := hrel
        by_cases hlt : k < l.length
        · obtain ⟨b, o, rfl, hcell⟩ := hS k hlt
          have hsz : l[k].size ≤ 1000000 := hz _ (List.getElem_mem hlt)
          go_wp2_with fail
          go_round
          case rel => exact ⟨k + 1, m + l[k].size, hlt, by go_num, by go_num, by omega⟩
          case measure => simp [intOf]; omega
        · have hm2 : m ≤ 281474976710656 := by omega
          obtain ⟨b, o, rfl, hcell⟩ := hS 0 (by omega)
          have hlt0 : 0 < l.length := by omega
          have hsz : l[0].size ≤ 1000000 := hz _ (List.getElem_mem hlt0)
          have hc0 : w.cell? ⟨b, o, none⟩ = some (.string l[0]) := by simpa using hcell
          have hB0 : (w.alloc (.cells #[.pointer none, .slice none 0 0] 96)).heap[w.heap.size]? = some (.cells #[.pointer none, .slice none 0 0] 96 (0, 0)) := heap_alloc_new w _
          have hbw : Below w.heap.size w (w.alloc (.cells #[.pointer none, .slice none 0 0] 96)) := (Below.refl _ _).alloc (Nat.le_refl _) _
          clear hcell hk hm
          go_wp2_with fail
          refine (Tryz.Builder_Grow_fresh w.heap.size w.heap.size m _ (Nat.le_refl _) hB0 hbw.size hm2).mono ?_
          rintro e w1 ⟨rfl, hB1, hb1⟩
          have hbr1 := hbw.trans hb1
          have hc1 : w1.cell? ⟨b, o, none⟩ = some (.string l[0]) := by rw [(bcell hbr1).1 b o (World.block_lt_of_cell? w _ hc0)]; exact hc0
          go_wp2_with fail
          refine (writeString_any _ _ [] l[0] _ (.inr hB1) (by simp; omega) hbr1.size).mono ?_
          rintro e w2 ⟨rfl, hB2, hb2⟩
          have hbr2 := hbr1.trans hb2
          have hB2' : Bld w.heap.size w.heap.size (joinC c (l.take 1)).data.toList w2 := by
            rw [take_one l hlt0, joinC_one]; exact hB2
          clear hB2 hB1 hc1
          go_wp2_with fail
          go_loopw [10, 65] (fun _ j wr => ∃ k : Nat, k + 1 ≤ l.length ∧ j = .int .i64 k ∧ Bld w.heap.size w.heap.size (joinC c (l.take (k + 1))).data.toList wr ∧ Below w.heap.size w wr) (fun _ i _ => l.length - (intOf i).toNat)
          case atStart => exact ⟨0, hlt0, rfl, hB2', hbr2⟩
          case round =>
            obtain ⟨k, hk, rfl, hB3, hbr⟩ := hrel
            have hjs := joinC_size c l 1000000 hz (k + 1) hk
            have hj2 : (joinC c (l.take (k + 1))).size ≤ 1000001000000 := by
              refine Nat.le_trans hjs ?_
              have : (k + 1) * 1000001 ≤ 1000000 * 1000001 := Nat.mul_le_mul_right _ (by omega)
              omega
            have hj3 : (joinC c (l.take (k + 1))).data.toList.length ≤ 1000001000000 := by
              have : (joinC c (l.take (k + 1))).data.toList.length = (joinC c (l.take (k + 1))).size := by simp
              omega
            clear hjs hj2
            by_cases hlt : k + 1 < l.length
            · have HJ := Lib.hid (joinC_snoc c l (k + 1) (by omega) hlt)
              have hsz1 : l[k + 1].size ≤ 1000000 := hz _ (List.getElem_mem hlt)
              have hck : wr.cell? ⟨b, o + 1 + k, none⟩ = some (.string l[k + 1]) := by
                obtain ⟨b', o', e, hck⟩ := (hS.below hbr) (k + 1) hlt
                injection e with e; injection e with e1 e2; subst e1; subst e2
                rw [show o + 1 + k = o + (k + 1) by omega]; exact hck
              have hlt' : (k : Int) < (l.length : Int) - 1 := by omega
              go_wp2_with fail
              refine (writeString_any _ _ _ _ _ hB3 (by have : (⟨#[c]⟩ : ByteArray).size = 1 := rfl; omega) hbr.size).mono ?_
              rintro e w3 ⟨rfl, hB4, hb4⟩
              have hbr4 := hbr.trans hb4
              go_wp2_with fail
              refine (writeString_any _ _ _ _ _ hB4 (by rw [List.length_append]; simp only [List.length_cons, List.length_nil]; omega) hbr4.size).mono ?_
              rintro e w4 ⟨rfl, hB5, hb5⟩
              go_wp2_with fail
              go_roundw
              case rel =>
                refine ⟨k + 1, hlt, by go_num, ?_, hbr4.trans hb5⟩
                rw [HJ.out]
                simpa using hB5
              case measure => simp [intOf]; omega
            · have HE := Lib.hid (joinC_all c l (k + 1) hlt)
              have hlt' : ¬ (k : Int) < (l.length : Int) - 1 := by omega
              go_wp2_with fail
              refine (bldString_any _ _ _ _ hB3 hbr.size).mono ?_
              rintro e w3 ⟨rfl, hb4⟩
              go_wp2_with fail
              go_ret
              exact ⟨ret_str (by rw [HE.out]), hbr.trans hb4⟩
end Go.Proofs.YthdpkfddmkijlaaGreatDoor

/- identityref02.Between. -/
namespace Go.Proofs.YthdpkfddmkijlaaGreatDoor
open Go.RowKit

theorem empty_app (s : ByteArray) : (⟨#[]⟩ : ByteArray) ++ s = s := by apply ByteArray.ext; simp
set_option maxHeartbeats 1000000 in
theorem between_any (l : List ByteArray) (c : UInt8) (A : Option Addr) (cap : Nat) (w : World) (hS : Strs w A l) (hl : l.length ≤ 1000000) (hz : ∀ s ∈ l, s.size ≤ 1000000) :
    Calls Tryz.prog 82 #[.slice A l.length cap, .string ⟨#[c]⟩] w fun e w' => e = .returned (.string (joinC c l)) ∧ Below w.heap.size w w' := by
  go_enter Tryz.func82, Tryz.ntmps82
  go_wp2_with fail
  go_loopw [5, 6] (fun o i wr => ∃ k : Nat, k ≤ l.length ∧ i = .int .i64 k ∧ o = .string (joinC c (l.take k)) ∧ Below w.heap.size w wr) (fun _ i _ => l.length - (intOf i).toNat)
  case atStart => exact ⟨0, Nat.zero_le _, rfl, by rw [joinC_zero], Below.refl _ _⟩
  case round =>
    obtain ⟨k, hk, rfl, rfl, hbr⟩ := hrel
    by_cases hlt : k < l.length
    · obtain ⟨b, o, rfl, hcell⟩ := (hS.below hbr) k hlt
      have hsz : l[k].size ≤ 1000000 := hz _ (List.getElem_mem hlt)
      have hjs := joinC_size c l 1000000 hz k hk
      have hj2 : (joinC c (l.take k)).size ≤ 1000001000000 := by
        refine Nat.le_trans hjs ?_
        have : k * 1000001 ≤ 1000000 * 1000001 := Nat.mul_le_mul_right _ (by omega)
        omega
      by_cases h0 : k = 0
      · subst h0
        have HJ := Lib.hid (joinC_zero c l)
        have HJ1 : Hid (joinC c (l.take 1) = ⟨#[]⟩ ++ l[0]) := by show _ = _; rw [take_one l hlt, joinC_one, empty_app]
        rw [HJ.out]
        clear hjs hj2
        have hc0 : wr.cell? ⟨b, o, none⟩ = some (.string l[0]) := by simpa using hcell
        have s0 : ¬ 9223372036854775807 < l[0].size := by omega
        clear hcell
        go_wp2_with fail
        go_roundw
        case rel => exact ⟨1, hlt, rfl, by rw [HJ1.out], hbr⟩
        case measure => simp [intOf]; omega
      · have HJ := Lib.hid (joinC_snoc c l k (by omega) hlt)
        generalize joinC c (l.take k) = pre at *
        have s1 : ¬ 9223372036854775807 < pre.size + 1 := by omega
        have s2 : ¬ 9223372036854775807 < pre.size + 1 + l[k].size := by omega
        clear hjs
        go_wp2_with fail
        go_roundw
        case rel => exact ⟨k + 1, hlt, by go_num, by rw [HJ.out], hbr⟩
        case measure => simp [intOf]; omega
    · have HE := Lib.hid (joinC_all c l k hlt)
      go_wp2_with fail
      go_ret
      exact ⟨ret_str HE.out, hbr⟩
end Go.Proofs.YthdpkfddmkijlaaGreatDoor

/- codec.Join and its reference compute joinS. -/
namespace Go.Proofs.YthdpkfddmkijlaaGreatDoor
open Go.RowKit

theorem joinS_nil : joinS [] = ⟨#[45]⟩ := rfl
theorem joinS_dash : joinS [⟨#[45]⟩] = ⟨#[37, 50, 68]⟩ := by decide +kernel
theorem map_esc (l : List ByteArray) : (l.map escS).map (·.data.toList) = (l.map (·.data.toList)).map escL := by
  induction l with
  | nil => rfl
  | cons a l ih => simp only [List.map_cons, ih]; rfl
theorem joinS_else (l : List ByteArray) (h0 : l ≠ []) (h1 : l ≠ [⟨#[45]⟩]) : joinS l = joinC 124 (l.map escS) := by
  have e0 : ¬ l.map (·.data.toList) = [] := by simpa using h0
  have e1 : ¬ l.map (·.data.toList) = [[45]] := by
    intro e
    apply h1
    have := congrArg (List.map bsOf) e
    rw [map_bsOf] at this
    exact this
  rw [joinS, joinE, if_neg e0, if_neg e1, joinC, map_esc]
theorem escS_map (l : List ByteArray) (hz : ∀ s ∈ l, s.size ≤ 300000) : ∀ s ∈ l.map escS, s.size ≤ 1000000 := by
  intro s hs
  rw [List.mem_map] at hs
  obtain ⟨t, ht, rfl⟩ := hs
  have := escS_size t
  have := hz t ht
  omega
theorem dash_ne {s : ByteArray} (h : s ≠ ⟨#[45]⟩) : (s.toList == (⟨#[45]⟩ : ByteArray).toList) = false := str_ne h
theorem dash_list : (⟨#[45]⟩ : ByteArray).toList = [45] := by rw [Lib.toList_data]
theorem dash_ne' {s : ByteArray} (h : s ≠ ⟨#[45]⟩) : (s.toList == [45]) = false := by have := str_ne h; rwa [dash_list] at this
theorem one_of {l : List ByteArray} (h : l.length = 1) (h0 : 0 < l.length) : l = [l[0]] := by
  match l, h with
  | [s], _ => rfl

set_option maxHeartbeats 4000000 in
set_option maxRecDepth 100000 in
theorem cjoin_any (l : List ByteArray) (A : Option Addr) (cap : Nat) (w : World) (hS : Strs w A l) (hl : l.length ≤ 1000000) (hz : ∀ s ∈ l, s.size ≤ 300000) :
    Calls Tryz.prog 47 #[.slice A l.length cap] w fun e w' => e = .returned (.string (joinS l)) ∧ Below w.heap.size w w' := by
  have HZ := Lib.hid hz
  clear hz
  obtain ⟨i0, hi, hz0, hz1, hz2⟩ := info_parts Tryz.info_s
  go_enter Tryz.func47, Tryz.ntmps47
  by_cases h0 : l.length = 0
  · have he : l = [] := List.eq_nil_of_length_eq_zero h0
    subst he
    have HJ := Lib.hid joinS_nil
    go_wp2_with fail
    go_ret
    exact ⟨ret_str HJ.out.symm, Below.refl _ _⟩
  · have hlt0 : 0 < l.length := by omega
    have hb0 : ((l.length : Int) == 0) = false := by rw [beq_eq_false_iff_ne]; omega
    obtain ⟨b, o, rfl, hcell⟩ := hS 0 hlt0
    have hc0 : w.cell? ⟨b, o, none⟩ = some (.string l[0]) := by simpa using hcell
    have hcs : (l.length = 1 ∧ l[0] = ⟨#[45]⟩) ∨ (l.length = 1 ∧ l[0] ≠ ⟨#[45]⟩) ∨ l.length ≠ 1 := by
      by_cases h1 : l.length = 1
      · by_cases h2 : l[0] = ⟨#[45]⟩
        · exact .inl ⟨h1, h2⟩
        · exact .inr (.inl ⟨h1, h2⟩)
      · exact .inr (.inr h1)
    clear hcell h0
    rcases hcs with ⟨h1, h2⟩ | hcs
    · have HJ : Hid (joinS l = ⟨#[37, 50, 68]⟩) := by
        show _ = _
        rw [one_of h1 hlt0, h2]; exact joinS_dash
      have hb1 : ((l.length : Int) == 1) = true := by rw [beq_iff_eq]; omega
      rw [h2] at hc0
      clear h1 h2
      go_wp2_with fail
      go_ret
      exact ⟨ret_str HJ.out.symm, Below.refl _ _⟩
    · have HJ : Hid (joinS l = joinC 124 (l.map escS)) := Lib.hid (joinS_else l (by intro e; rw [e] at hlt0; exact absurd hlt0 (by simp)) (by
        intro e
        rcases hcs with ⟨_, h2⟩ | h1
        · exact h2 (by simp [e])
        · exact h1 (by simp [e])))
      obtain ⟨x0, hx0⟩ : ∃ x0, l[0] = x0 := ⟨_, rfl⟩
      rw [hx0] at hcs hc0
      have HX0 := Lib.hid hx0
      clear hx0
      have hcs2 : (((l.length : Int) == 1) = true ∧ (x0.toList == [45]) = false) ∨ ((l.length : Int) == 1) = false := by
        rcases hcs with ⟨h1, h2⟩ | h1
        · exact .inl ⟨by rw [beq_iff_eq]; omega, dash_ne' h2⟩
        · exact .inr (by rw [beq_eq_false_iff_ne]; omega)
      clear hcs
      rcases hcs2 with ⟨hb1, hsd⟩ | hb1
      all_goals
        go_wp2_with (at_make; refine wpList_make_full _ rfl _ _ 33 rfl w.heap.size 9 i0 (.string ByteArray.empty) 1 Tryz.underlying33 hi hz0 hz1 .i64 .i64 _ _ l.length rfl rfl rfl rfl (by rw [hz2]; omega) (by unfold maxLen; omega) (Nat.le_refl _) ?_; intro w1 hown1 hg1)
        have HB1 := Lib.hid ((Below.refl w.heap.size w).grown hg1 (Nat.le_refl _) (by intro k hk; cases hk))
        clear hg1
        go_wp2_with fail
        go_loopw [4, 22] (fun _ i wr => ∃ k : Nat, ∃ xs : List Value, k ≤ l.length ∧ i = .int .i64 k ∧ wr.ownsRow w.heap.size 9 1 (.slice (some ⟨w.heap.size, 0, none⟩) l.length l.length) l.length xs ∧ Below w.heap.size w wr ∧ Done xs (l.map escS) k) (fun _ i _ => l.length - (intOf i).toNat)
        case atStart => exact ⟨0, _, Nat.zero_le _, rfl, hown1, HB1.out, Done.zero _ _⟩
        case round =>
          obtain ⟨k, xs, hk, rfl, hown, hbr, hdone⟩ := hrel
          have HD := Lib.hid hdone
          clear hdone hown1 hc0
          by_cases hlt : k < l.length
          · obtain ⟨b', o', e, hc⟩ := (hS.below hbr) k hlt
            injection e with e; injection e with e1 e2; subst e1; subst e2
            have hlb := World.block_lt_of_cell? wr _ hc
            have hsz : l[k].size ≤ 300000 := HZ.out _ (List.getElem_mem hlt)
            have HX : Hid (xs.length = l.length) := by show _ = _; have := hown.1; omega
            obtain ⟨u, hu⟩ : ∃ u, xs[k]? = some u := ⟨_, List.getElem?_eq_getElem (by rw [HX.out]; exact hlt)⟩
            have HU := Lib.hid hu
            clear hu
            go_wp2_with fail
            refine (esc_any _ _ (by omega)).mono ?_
            rintro e w2 ⟨rfl, hb2⟩
            have hown2 := own_below hown hb2
            have hcell := (hown2.cellAt k (by omega)).trans HU.out
            have hfr := hown2.frozenAt k
            go_wp2_with fail
            have HB2 : Hid (Below w.heap.size w _) := (bthen hbr hb2).setCell (p := ⟨w.heap.size, k, none⟩) (Nat.le_refl _) (.string (escS l[k]))
            have HS := Lib.hid (hown2.stored k (.string (escS l[k])))
            go_roundw
            case rel => exact ⟨k + 1, _, by omega, by go_num, HS.out.1, HB2.out, HD.out.set (by rw [HX.out]; exact hlt) (fun hl => by simp)⟩
            case measure => simp [intOf]; omega
          · have HK : Hid (k = l.length) := by show _ = _; omega
            have HO : Hid (Strs wr (some ⟨w.heap.size, 0, none⟩) (l.map escS)) := Lib.hid (Strs.own hown (by simp) (fun j hj => HD.out j hj (by rw [HK.out]; simpa using hj)))
            have hj := sjoin_any (l.map escS) 124 (some ⟨w.heap.size, 0, none⟩) l.length wr HO.out (by simpa using hl) (by simp) (escS_map l HZ.out)
            rw [List.length_map] at hj
            go_wp2_with fail
            refine hj.mono ?_
            rintro e w3 ⟨rfl, hb3⟩
            go_wp2_with fail
            go_ret
            exact ⟨ret_str HJ.out.symm, bthen hbr hb3⟩
end Go.Proofs.YthdpkfddmkijlaaGreatDoor

/- identityref02.Join computes joinS. -/
namespace Go.Proofs.YthdpkfddmkijlaaGreatDoor
open Go.RowKit

theorem esc_snoc (l : List ByteArray) (k : Nat) (h : k < l.length) : strVs ((l.take k).map escS) ++ [strV (escS l[k])] = strVs ((l.take (k + 1)).map escS) := by
  rw [strVs_snoc, List.take_succ_eq_append_getElem h, List.map_append]; rfl

/-- An own row of strings, read as a list. -/
theorem own_strs {w : World} {base e n : Nat} {v : Value} {xs : List Value} {l : List ByteArray} (h : w.ownsRow base e 1 v n xs) (hn : l.length = n)
    (hx : ∀ j, (h : j < l.length) → xs[j]? = some (.string l[j])) : ∃ A cap, v = .slice A l.length cap ∧ Strs w A l ∧ l.length ≤ cap := by
  rcases h.2 with ⟨rfl, rfl⟩ | ⟨g, cap, cur, rfl, hg, _, hnc, _⟩
  · have : l = [] := List.eq_nil_of_length_eq_zero hn
    subst this
    exact ⟨none, 0, rfl, Strs.nil_ _ _, Nat.le_refl _⟩
  · subst hn
    exact ⟨_, cap, rfl, Strs.own h rfl hx, hnc⟩

set_option maxHeartbeats 4000000 in
set_option maxRecDepth 100000 in
theorem rjoin_any (l : List ByteArray) (A : Option Addr) (cap : Nat) (w : World) (hS : Strs w A l) (hl : l.length ≤ 1000000) (hz : ∀ s ∈ l, s.size ≤ 300000) :
    Calls Tryz.prog 52 #[.slice A l.length cap] w fun e w' => e = .returned (.string (joinS l)) ∧ Below w.heap.size w w' := by
  have HZ := Lib.hid hz
  clear hz
  obtain ⟨i0, hi, hz0, hz1, hz2⟩ := info_parts Tryz.info_s
  go_enter Tryz.func52, Tryz.ntmps52
  by_cases h0 : l.length = 0
  · have he : l = [] := List.eq_nil_of_length_eq_zero h0
    subst he
    have HJ := Lib.hid joinS_nil
    go_wp2_with fail
    go_ret
    exact ⟨ret_str HJ.out.symm, Below.refl _ _⟩
  · have hlt0 : 0 < l.length := by omega
    have hb0 : ((l.length : Int) == 0) = false := by rw [beq_eq_false_iff_ne]; omega
    obtain ⟨b, o, rfl, hcell⟩ := hS 0 hlt0
    have hc0 : w.cell? ⟨b, o, none⟩ = some (.string l[0]) := by simpa using hcell
    have hcs : (l.length = 1 ∧ l[0] = ⟨#[45]⟩) ∨ (l.length = 1 ∧ l[0] ≠ ⟨#[45]⟩) ∨ l.length ≠ 1 := by
      by_cases h1 : l.length = 1
      · by_cases h2 : l[0] = ⟨#[45]⟩
        · exact .inl ⟨h1, h2⟩
        · exact .inr (.inl ⟨h1, h2⟩)
      · exact .inr (.inr h1)
    clear hcell h0
    rcases hcs with ⟨h1, h2⟩ | hcs
    · have HJ : Hid (joinS l = ⟨#[37, 50, 68]⟩) := by
        show _ = _
        rw [one_of h1 hlt0, h2]; exact joinS_dash
      have hb1 : ((l.length : Int) == 1) = true := by rw [beq_iff_eq]; omega
      rw [h2] at hc0
      clear h1 h2
      go_wp2_with fail
      go_ret
      exact ⟨ret_str HJ.out.symm, Below.refl _ _⟩
    · have HJ : Hid (joinS l = joinC 124 (l.map escS)) := Lib.hid (joinS_else l (by intro e; rw [e] at hlt0; exact absurd hlt0 (by simp)) (by
        intro e
        rcases hcs with ⟨_, h2⟩ | h1
        · exact h2 (by simp [e])
        · exact h1 (by simp [e])))
      obtain ⟨x0, hx0⟩ : ∃ x0, l[0] = x0 := ⟨_, rfl⟩
      rw [hx0] at hcs hc0
      have HX0 := Lib.hid hx0
      clear hx0
      have hcs2 : (((l.length : Int) == 1) = true ∧ (x0.toList == [45]) = false) ∨ ((l.length : Int) == 1) = false := by
        rcases hcs with ⟨h1, h2⟩ | h1
        · exact .inl ⟨by rw [beq_iff_eq]; omega, dash_ne' h2⟩
        · exact .inr (by rw [beq_eq_false_iff_ne]; omega)
      clear hcs
      rcases hcs2 with ⟨hb1, hsd⟩ | hb1
      all_goals
        go_wp2_with fail
        go_loopw [3, 4] (fun v i wr => ∃ k : Nat, k ≤ l.length ∧ i = .int .i64 k ∧ wr.ownsRow w.heap.size 9 1 v k (strVs ((l.take k).map escS)) ∧ Below w.heap.size w wr) (fun _ i _ => l.length - (intOf i).toNat)
        case atStart => exact ⟨0, Nat.zero_le _, rfl, World.ownsRow_nil _ _ _ _, Below.refl _ _⟩
        case round =>
          obtain ⟨k, hk, rfl, hown, hbr⟩ := hrel
          clear hc0
          have hgt := hbr.size
          by_cases hlt : k < l.length
          · obtain ⟨b', o', e, hc⟩ := (hS.below hbr) k hlt
            injection e with e; injection e with e1 e2; subst e1; subst e2
            have hlb := World.block_lt_of_cell? wr _ hc
            have hsz : l[k].size ≤ 300000 := HZ.out _ (List.getElem_mem hlt)
            have HL := Lib.hid (esc_snoc l k hlt)
            go_wp2_with fail
            refine (resc_any _ _ (by omega)).mono ?_
            rintro e w2 ⟨rfl, hb2⟩
            have hown2 := own_below hown hb2
            have hbr2 := bthen hbr hb2
            go_wp2_with (at_builtin; refine wpList_append_own _ rfl _ _ 33 rfl w.heap.size 9 i0 (.string ByteArray.empty) 1 16 Tryz.underlying33 hi hz0 hz1 hz2 rfl (by decide) _ _ _ rfl (hown2.alloc _) ⟨w2.heap.size, 0, none⟩ 1 1 [strV (escS l[k])] rfl rfl (cell_one_new _ _ _) (by intro u hu; simp at hu; subst hu; rfl) (by unfold maxLen; omega) (by omega) (by have := hbr2.size; simp; omega) ?_; intro v' w1 hown1 hg1 _)
            have HB : Hid (Below w.heap.size w w1) := Lib.hid ((hbr2.alloc hbr2.size _).grown hg1 (by have := hbr2.size; simp; omega) (fun q hq => (hown2.lt q hq).1))
            have HO : Hid (w1.ownsRow w.heap.size 9 1 v' (k + 1) (strVs ((l.take (k + 1)).map escS))) := by
              show World.ownsRow _ _ _ _ _ _ _
              rw [← HL.out]; exact hown1
            clear hown1 hg1
            go_wp2_with fail
            go_roundw
            case rel => exact ⟨k + 1, by omega, by go_num, HO.out, HB.out⟩
            case measure => simp [intOf]; omega
          · have hK : k = l.length := by omega
            obtain ⟨A2, c2, rfl, hS2, _⟩ := own_strs (l := l.map escS) hown (by simp [hK]) (fun j hj => by
              rw [hK, List.take_of_length_le (Nat.le_refl _)]
              exact strVs_at _ j hj)
            have hj := between_any (l.map escS) 124 A2 c2 wr hS2 (by simpa using hl) (escS_map l HZ.out)
            rw [List.length_map] at hj
            rw [List.length_map]
            clear hS2
            go_wp2_with fail
            refine hj.mono ?_
            rintro e w3 ⟨rfl, hb3⟩
            go_wp2_with fail
            go_ret
            exact ⟨ret_str HJ.out.symm, bthen hbr hb3⟩
end Go.Proofs.YthdpkfddmkijlaaGreatDoor

/- codec.Split and its reference compute splitS, splitErr. -/
namespace Go.Proofs.YthdpkfddmkijlaaGreatDoor
open Go.RowKit

def unAllO : List ByteArray → Option (List ByteArray)
  | [] => some []
  | p :: ps => (unescO p).bind fun a => (unAllO ps).map (a :: ·)
theorem unAllO_eq (l : List (List UInt8)) : (unAll l).map (List.map bsOf) = unAllO (l.map bsOf) := by
  induction l with
  | nil => rfl
  | cons p ps ih =>
    rw [unAll, List.map_cons, unAllO, ← ih]
    show _ = ((unE (bsOf p).data.toList 0).map fun l => (⟨l.toArray⟩ : ByteArray)).bind _
    rw [list_bsOf]
    cases unE p 0 with
    | none => rfl
    | some a =>
      cases unAll ps with
      | none => rfl
      | some r => rfl
theorem splitO_else {s : ByteArray} (h1 : s ≠ ⟨#[45]⟩) (h2 : s ≠ ⟨#[37, 50, 68]⟩) : splitO s = unAllO (cutsS s 124) := by
  have e1 : ¬ s.data.toList = [45] := fun e => h1 (by rw [← bsOf_list s, e]; rfl)
  have e2 : ¬ s.data.toList = [37, 50, 68] := fun e => h2 (by rw [← bsOf_list s, e]; rfl)
  rw [splitO, splitE, if_neg e1, if_neg e2, unAllO_eq]; rfl
theorem splitO_dash : splitO ⟨#[45]⟩ = some [] := rfl
theorem splitO_2d : splitO ⟨#[37, 50, 68]⟩ = some [⟨#[45]⟩] := rfl
theorem split_some {s : ByteArray} {l : List ByteArray} (h : splitO s = some l) : splitS s = l ∧ splitErr s = 0 := by simp [splitS, splitErr, h]
theorem split_none {s : ByteArray} (h : splitO s = none) : splitS s = [] ∧ splitErr s = 4 := by simp [splitS, splitErr, h]
theorem all_none {l U : List ByteArray} {k : Nat} {R : Option (List ByteArray)} (hk : k < l.length) (h : unescO l[k] = none) (HP : (unAllO (l.drop k)).map (U ++ ·) = R) : R = none := by
  rw [List.drop_eq_getElem_cons hk, unAllO, h] at HP
  rw [← HP]; rfl
theorem all_step {l U : List ByteArray} {k : Nat} {t : ByteArray} {R : Option (List ByteArray)} (hk : k < l.length) (h : unescO l[k] = some t) (HP : (unAllO (l.drop k)).map (U ++ ·) = R) : (unAllO (l.drop (k + 1))).map ((U ++ [t]) ++ ·) = R := by
  rw [List.drop_eq_getElem_cons hk, unAllO, h, Option.bind_some] at HP
  rw [← HP]
  cases unAllO (l.drop (k + 1)) <;> simp
theorem all_end {l U : List ByteArray} {k : Nat} {R : Option (List ByteArray)} (hk : ¬ k < l.length) (HP : (unAllO (l.drop k)).map (U ++ ·) = R) : R = some U := by
  rw [List.drop_of_length_le (by omega), unAllO] at HP
  rw [← HP]; simp
theorem unesc_case (s : ByteArray) : (unescO s = none ∧ unescS s = ⟨#[]⟩ ∧ unescE s = 4) ∨ ∃ t, unescO s = some t ∧ unescS s = t ∧ unescE s = 0 := by
  cases h : unescO s with
  | none => exact .inl ⟨rfl, (un_noneO h)⟩
  | some t => exact .inr ⟨t, rfl, un_some h⟩
theorem done_all {xs : List Value} {l : List ByteArray} (hl : xs.length = l.length) (h : Done xs l l.length) : xs = strVs l := by
  apply List.ext_getElem?
  intro j
  by_cases hj : j < l.length
  · rw [h j hj hj, strVs_at l j hj]
  · rw [List.getElem?_eq_none (by omega), List.getElem?_eq_none (by simp [strVs]; omega)]
theorem set_vs {l U : List ByteArray} {k : Nat} (hU : U.length = k) (hk : k < l.length) (t : ByteArray) : (strVs (U ++ l.drop k)).set k (.string t) = strVs ((U ++ [t]) ++ l.drop (k + 1)) := by
  subst hU
  rw [List.drop_eq_getElem_cons hk]
  generalize l.drop (U.length + 1) = R
  generalize l[U.length] = x
  simp [strVs, strV]
theorem at_vs {l U : List ByteArray} {k : Nat} (hU : U.length = k) (hk : k < l.length) : (strVs (U ++ l.drop k))[k]? = some (.string l[k]) := by
  subst hU
  rw [List.drop_eq_getElem_cons hk]
  generalize l.drop (U.length + 1) = R
  generalize l[U.length] = x
  simp [strVs, strV]
theorem cutL_small (c : UInt8) (l : List UInt8) : ∀ p ∈ cutL c l, p.length ≤ l.length := by
  induction l with
  | nil => intro p hp; simp [cutL] at hp; subst hp; simp
  | cons x r ih =>
    intro p hp
    rw [cutL] at hp
    split at hp
    · rw [List.mem_cons] at hp
      rcases hp with rfl | hp
      · simp
      · have := ih p hp; simp; omega
    · cases hc : cutL c r with
      | nil => exact absurd hc (cutL_ne c r)
      | cons q qs =>
        rw [hc] at hp ih
        simp only [List.mem_cons] at hp
        rcases hp with rfl | hp
        · have := ih q (by simp); simp; omega
        · have := ih p (List.mem_cons_of_mem _ hp); simp; omega
theorem cuts_size {s : ByteArray} {c : UInt8} : ∀ p ∈ cutsS s c, p.size ≤ s.size := by
  intro p hp
  rw [cutsS, cutsL, List.mem_map] at hp
  obtain ⟨q, hq, rfl⟩ := hp
  have := cutL_small c s.data.toList q hq
  have e1 : (bsOf q).size = q.length := by simp [bsOf, ByteArray.size]
  have e2 : s.size = s.data.toList.length := by simp
  omega

set_option maxHeartbeats 4000000 in
set_option maxRecDepth 100000 in
theorem csplit_any (s : ByteArray) (w : World) (hs : s.size ≤ 1000000) :
    Calls Tryz.prog 54 #[.string s] w fun e w' => RetStrs2 w.heap.size w' e (splitS s) (splitErr s) ∧ Below w.heap.size w w' := by
  go_enter Tryz.func54, Tryz.ntmps54
  by_cases h1 : s = ⟨#[45]⟩
  · subst h1
    have hG := Lib.hid (split_some splitO_dash)
    go_wp2_with fail
    go_ret2
    exact ⟨⟨none, 0, by rw [hG.out.1, hG.out.2]; rfl, by rw [hG.out.1]; exact Strs.nil_ _ _, (fun p h => by cases h), by rw [hG.out.1]; exact Nat.le_refl _⟩, Below.refl _ _⟩
  · have hd1 := dash_ne' h1
    by_cases h2 : s = ⟨#[37, 50, 68]⟩
    · subst h2
      have hG := Lib.hid (split_some splitO_2d)
      clear hd1 h1
      go_wp2_with fail
      go_ret2
      refine ⟨⟨some ⟨w.heap.size, 0, none⟩, 1, by rw [hG.out.1, hG.out.2]; rfl, ?_, (fun p h => by cases h; exact Nat.le_refl _), by rw [hG.out.1]; exact Nat.le_refl _⟩, (Below.refl _ _).alloc (Nat.le_refl _) _⟩
      rw [hG.out.1]
      intro i hi
      have hi0 : i = 0 := by simpa using hi
      subst hi0
      exact ⟨w.heap.size, 0, rfl, by simp [go_sem]⟩
    · have hd2 : (s.toList == [37, 50, 68]) = false := by
        have := str_ne h2
        rwa [show (⟨#[37, 50, 68]⟩ : ByteArray).toList = [37, 50, 68] by rw [Lib.toList_data]] at this
      have HO := Lib.hid (splitO_else h1 h2)
      clear h1 h2
      have hle := cutsS_le s 124
      have HZ := Lib.hid (cuts_size (s := s) (c := 124))
      go_wp2_with fail
      refine (ssplit_any s 124 w (by omega)).mono ?_
      rintro e w1 ⟨xs, cap, rfl, hc1, hown1, hD1, hb1⟩
      have hx := done_all (by have := hown1.1; omega) hD1
      clear hD1
      subst hx
      obtain ⟨N, hN⟩ : ∃ N, (cutsS s 124).length = N := ⟨_, rfl⟩
      rw [hN] at hc1 hown1 hle
      have HN := Lib.hid hN
      rw [hN]
      clear hN
      go_wp2_with fail
      go_loopw [5, 6, 7, 8, 18] (fun _ _ _ _ j wr => ∃ (k : Nat) (U : List ByteArray), k ≤ N ∧ j = .int .i64 k ∧ U.length = k ∧ wr.ownsRow w.heap.size 9 1 (.slice (some ⟨w.heap.size, 0, none⟩) N cap) N (strVs (U ++ (cutsS s 124).drop k)) ∧ Hid ((unAllO ((cutsS s 124).drop k)).map (U ++ ·) = splitO s) ∧ Below w.heap.size w wr) (fun _ _ _ _ i _ => N - (intOf i).toNat)
      case atStart => exact ⟨0, [], Nat.zero_le _, rfl, rfl, by simpa using hown1, Lib.hid (by rw [HO.out]; simp), hb1⟩
      case round =>
        clear hown1
        obtain ⟨k, U, hk, rfl, hU, hown, HP, hbr⟩ := hrel
        by_cases hlt : k < N
        · have hlt2 : k < (cutsS s 124).length := by rw [HN.out]; exact hlt
          have hcell := (hown.cellAt k (by omega)).trans (at_vs hU hlt2)
          have hfr := hown.frozenAt k
          have hsz := HZ.out _ (List.getElem_mem hlt2)
          have HA : Hid (unescO (cutsS s 124)[k] = none → splitO s = none) := Lib.hid (fun h => all_none hlt2 h HP.out)
          have HB : Hid (∀ t, unescO (cutsS s 124)[k] = some t → (unAllO ((cutsS s 124).drop (k + 1))).map ((U ++ [t]) ++ ·) = splitO s) := Lib.hid (fun t h => all_step hlt2 h HP.out)
          have HU := Lib.hid hU
          have HL2 := Lib.hid hlt2
          generalize (cutsS s 124)[k] = x at hcell hsz HA HB
          have hun := unesc_any x wr (by omega)
          rcases unesc_case x with ⟨hx1, hx2, hx3⟩ | ⟨t, hx1, hx2, hx3⟩
          · rw [hx2, hx3] at hun
            have hG := Lib.hid (split_none (HA.out hx1))
            clear hx1 hx2 hx3 hU hlt2
            go_wp2_with fail
            refine hun.mono ?_
            rintro e w2 ⟨rfl, hb2⟩
            go_wp2_with fail
            go_ret2
            exact ⟨⟨none, 0, by rw [hG.out.1, hG.out.2]; rfl, by rw [hG.out.1]; exact Strs.nil_ _ _, (fun p h => by cases h), by rw [hG.out.1]; exact Nat.le_refl _⟩, bthen hbr hb2⟩
          · rw [hx2, hx3] at hun
            have HP1 := Lib.hid (HB.out t hx1)
            clear hx1 hx2 hx3 hU hlt2
            go_wp2_with fail
            refine hun.mono ?_
            rintro e w2 ⟨rfl, hb2⟩
            have hown2 := own_below hown hb2
            have hcell2 := (hown2.cellAt k (by omega)).trans (at_vs HU.out HL2.out)
            have hfr2 := hown2.frozenAt k
            clear hcell hfr
            go_wp2_with fail
            have HS := (hown2.stored k (.string t)).1
            rw [set_vs HU.out HL2.out] at HS
            go_roundw
            case rel => exact ⟨k + 1, U ++ [t], hlt, by go_num, by rw [List.length_append, HU.out]; rfl, HS, HP1, (bthen hbr hb2).setCell (p := ⟨w.heap.size, k, none⟩) (Nat.le_refl _) _⟩
            case measure => simp [intOf]; omega
        · have hkN : k = N := by omega
          have hG := Lib.hid (split_some (all_end (by rw [HN.out]; exact hlt) HP.out))
          have hdr : (cutsS s 124).drop k = [] := List.drop_of_length_le (by rw [HN.out]; omega)
          rw [hdr, List.append_nil] at hown
          clear hdr
          go_wp2_with fail
          go_ret2
          refine ⟨?_, hbr⟩
          rw [hG.out.1, hG.out.2]
          exact RetStrs2.own hown (hU.trans hkN) (strVs_at U)
end Go.Proofs.YthdpkfddmkijlaaGreatDoor

/- Plain: how long the forms of lists are. -/
namespace Go.Proofs.YthdpkfddmkijlaaGreatDoor
open Go.RowKit

theorem escL_ge (l : List UInt8) : l.length ≤ (escL l).length := by
  have h : unescO (escS ⟨l.toArray⟩) = some ⟨l.toArray⟩ := unesc_esc _
  have := unescO_size h
  have e1 : (⟨l.toArray⟩ : ByteArray).size = l.length := by show l.toArray.size = _; simp
  have e2 : (escS ⟨l.toArray⟩).size = (escL l).length := by show (escL _).toArray.size = _; simp
  omega
theorem escL_le (l : List UInt8) : (escL l).length ≤ 3 * l.length := by
  have := escS_size ⟨l.toArray⟩
  have e1 : (⟨l.toArray⟩ : ByteArray).size = l.length := by show l.toArray.size = _; simp
  have e2 : (escS ⟨l.toArray⟩).size = (escL l).length := by show (escL _).toArray.size = _; simp
  omega
theorem joinL_one (c : UInt8) (p : List UInt8) : joinL c [p] = p := rfl
theorem joinL_le (c : UInt8) (B : Nat) : ∀ ps : List (List UInt8), (∀ p ∈ ps, p.length ≤ B) → (joinL c ps).length ≤ ps.length * (B + 1)
  | [], _ => by simp [joinL]
  | p :: ps, h => by
    have hp := h p (by simp)
    by_cases hn : ps = []
    · subst hn; rw [joinL_one]; simp; omega
    · rw [joinL_cons c p ps hn]
      have ih := joinL_le c B ps (fun q hq => h q (List.mem_cons_of_mem _ hq))
      simp only [List.length_append, List.length_cons]
      rw [Nat.add_mul]; omega
theorem joinL_ge (c : UInt8) : ∀ ps : List (List UInt8), ps.length ≤ (joinL c ps).length + 1 ∧ ∀ p ∈ ps, p.length ≤ (joinL c ps).length
  | [] => by simp
  | p :: ps => by
    by_cases hn : ps = []
    · subst hn; rw [joinL_one]; simp
    · rw [joinL_cons c p ps hn]
      have ih := joinL_ge c ps
      refine ⟨by simp; omega, fun q hq => ?_⟩
      rw [List.mem_cons] at hq
      rcases hq with rfl | hq
      · simp
      · have := ih.2 q hq
        simp; omega
theorem bs_len (l : List UInt8) : (bsOf l).size = l.length := by show l.toArray.size = _; simp
theorem joinS_le (l : List ByteArray) (B : Nat) (h : ∀ s ∈ l, s.size ≤ B) : (joinS l).size ≤ 3 + l.length * (3 * B + 1) := by
  by_cases h0 : l = []
  · subst h0; rw [joinS_nil]; show 1 ≤ _; omega
  by_cases h1 : l = [⟨#[45]⟩]
  · subst h1; rw [joinS_dash]; show 3 ≤ _; omega
  rw [joinS_else l h0 h1, joinC, bs_len]
  have := joinL_le 124 (3 * B) ((l.map escS).map (·.data.toList)) (fun p hp => by
    simp only [List.mem_map] at hp
    obtain ⟨_, ⟨s, hs, rfl⟩, rfl⟩ := hp
    have h2 := escS_size s
    have h3 := h s hs
    have e : (escS s).data.toList.length = (escS s).size := by simp
    omega)
  simp only [List.length_map] at this
  omega
theorem split_len {s : ByteArray} {l : List ByteArray} (h : splitO s = some l) : l.length ≤ s.size + 1 ∧ ∀ t ∈ l, t.size ≤ s.size + 1 := by
  have hj := join_splitS h
  by_cases h0 : l = []
  · subst h0; simp
  by_cases h1 : l = [⟨#[45]⟩]
  · subst h1; refine ⟨by simp, fun t ht => ?_⟩
    rw [List.mem_singleton] at ht; subst ht; show 1 ≤ _; omega
  rw [joinS_else l h0 h1, joinC] at hj
  have hz : s.size = (joinL 124 ((l.map escS).map (·.data.toList))).length := by rw [← hj, bs_len]
  obtain ⟨g1, g2⟩ := joinL_ge 124 ((l.map escS).map (·.data.toList))
  simp only [List.length_map] at g1
  refine ⟨by omega, fun t ht => ?_⟩
  have := g2 (escS t).data.toList (by simp only [List.mem_map]; exact ⟨_, ⟨t, ht, rfl⟩, rfl⟩)
  have h3 : t.size ≤ (escS t).size := unescO_size (unesc_esc t)
  have e : (escS t).data.toList.length = (escS t).size := by simp
  omega
end Go.Proofs.YthdpkfddmkijlaaGreatDoor

/- fold.Word: a word is 1 to 64 bytes, each a letter, a digit, or one of - _ . : -/

namespace Go.Proofs.YthdpkfddmkijlaaGreatDoor
open Go.RowKit

/-- A letter or a digit. -/
def alnumC (c : UInt8) : Bool := decide ((97 ≤ c.toNat ∧ c.toNat ≤ 122) ∨ (65 ≤ c.toNat ∧ c.toNat ≤ 90) ∨ (48 ≤ c.toNat ∧ c.toNat ≤ 57))
/-- A byte of a word. -/
def wordC (c : UInt8) : Bool := alnumC c || decide (c.toNat = 45 ∨ c.toNat = 95 ∨ c.toNat = 46 ∨ c.toNat = 58)
def wordS (s : ByteArray) : Bool := decide (1 ≤ s.size ∧ s.size ≤ 64) && s.data.toList.all wordC
theorem alnumC_mk {c : UInt8} {b : Bool} (h : b = true ↔ ((97 ≤ c.toNat ∧ c.toNat ≤ 122) ∨ (65 ≤ c.toNat ∧ c.toNat ≤ 90) ∨ (48 ≤ c.toNat ∧ c.toNat ≤ 57))) : b = alnumC c := by
  rw [Bool.eq_iff_iff, h, alnumC, decide_eq_true_iff]
theorem wordC_mk {c : UInt8} {b : Bool} (h : b = true ↔ (((97 ≤ c.toNat ∧ c.toNat ≤ 122) ∨ (65 ≤ c.toNat ∧ c.toNat ≤ 90) ∨ (48 ≤ c.toNat ∧ c.toNat ≤ 57)) ∨ (c.toNat = 45 ∨ c.toNat = 95 ∨ c.toNat = 46 ∨ c.toNat = 58))) : b = wordC c := by
  rw [Bool.eq_iff_iff, h, wordC, alnumC, Bool.or_eq_true, decide_eq_true_iff, decide_eq_true_iff]

set_option maxHeartbeats 1000000 in
theorem wordByte_any (c : UInt8) (w : World) :
    Calls Tryz.prog 73 #[.int .u8 (c.toNat : Int)] w fun e w' => e = .returned (.bool (wordC c)) ∧ w = w' := by
  have hcs : (97 ≤ c.toNat ∧ c.toNat ≤ 122) ∨ (65 ≤ c.toNat ∧ c.toNat ≤ 90) ∨ (48 ≤ c.toNat ∧ c.toNat ≤ 57) ∨ c.toNat = 45 ∨ c.toNat = 95 ∨ c.toNat = 46 ∨ c.toNat = 58 ∨ (c.toNat < 45) ∨ c.toNat = 47 ∨ (58 < c.toNat ∧ c.toNat < 65) ∨ (90 < c.toNat ∧ c.toNat < 95) ∨ c.toNat = 96 ∨ 122 < c.toNat := by omega
  go_enter Tryz.func73, Tryz.ntmps73
  generalize hn : c.toNat = n at *
  have HN := Lib.hid hn
  clear hn
  rcases hcs with ⟨h1, h2⟩ | ⟨h1, h2⟩ | ⟨h1, h2⟩ | rfl | rfl | rfl | rfl | h | rfl | ⟨h1, h2⟩ | ⟨h1, h2⟩ | rfl | h
  all_goals
    go_wp2
    go_ret
    exact ⟨ret_bool (wordC_mk (by rw [HN.out]; simp; try omega)), rfl⟩

theorem take_all {s : ByteArray} {k : Nat} {p : UInt8 → Bool} (h : k < s.size) (ha : (s.data.toList.take k).all p = true) (hc : p s[k] = true) : (s.data.toList.take (k + 1)).all p = true := by
  rw [take_snoc s k h, List.all_append, ha]; simp [hc]
theorem all_bad {s : ByteArray} {k : Nat} {p : UInt8 → Bool} (h : k < s.size) (hc : p s[k] = false) : s.data.toList.all p = false := by
  rw [List.all_eq_false]
  exact ⟨s[k], by rw [← Array.mem_def]; exact Array.getElem_mem _, by simp [hc]⟩
theorem all_done {s : ByteArray} {k : Nat} {p : UInt8 → Bool} (h : ¬ k < s.size) (ha : (s.data.toList.take k).all p = true) : s.data.toList.all p = true := by
  rwa [List.take_of_length_le (by simp; have : s.size = s.data.size := rfl; omega)] at ha
set_option maxHeartbeats 1000000 in
theorem made_word (s : ByteArray) (w : World) (hs : s.size ≤ 9223372036854775807) :
    Calls Tryz.prog 72 #[.string s, .func (.func 73) #[] #[]] w fun e w' => e = .returned (.bool (wordS s)) ∧ w = w' := by
  go_enter Tryz.func72, Tryz.ntmps72
  go_wp2_with fail
  go_loop [5, 8] (fun _ j => ∃ k : Nat, k ≤ s.size ∧ j = .int .i64 k ∧ Hid ((s.data.toList.take k).all wordC = true)) (fun _ i => s.size - (intOf i).toNat)
  case atStart => exact ⟨0, Nat.zero_le _, rfl, Lib.hid (by simp)⟩
  case round =>
    obtain ⟨k, hk, rfl, HA⟩ := hrel
    by_cases hlt : k < s.size
    · go_wp2_with fail
      cases hc : wordC s[k] with
      | false =>
        have HC := Lib.hid hc
        refine (wordByte_any s[k] w).mono ?_
        rintro e w1 ⟨rfl, rfl⟩
        rw [hc]
        clear hc
        go_wp2_with fail
        go_ret
        exact ⟨ret_bool (by rw [wordS, all_bad hlt HC.out, Bool.and_false]), rfl⟩
      | true =>
        have HC := Lib.hid hc
        refine (wordByte_any s[k] w).mono ?_
        rintro e w1 ⟨rfl, rfl⟩
        rw [hc]
        clear hc
        go_wp2_with fail
        go_round
        case rel => exact ⟨k + 1, by omega, by go_num, Lib.hid (take_all hlt HA.out HC.out)⟩
        case measure => simp [intOf]; omega
    · have HD := Lib.hid (all_done hlt HA.out)
      by_cases h0 : s.size = 0
      · have he : s.toList = [] := by rw [Lib.toList_data]; exact List.eq_nil_of_length_eq_zero (by simpa using h0)
        have hb : (s.toList.isEmpty) = true := by rw [he]; rfl
        have H0 := Lib.hid h0
        clear h0 he
        go_wp2_with fail
        go_ret
        exact ⟨ret_bool (by rw [wordS, H0.out]; simp), rfl⟩
      · have hb : (s.toList.isEmpty) = false := by
          rw [Lib.toList_data]
          cases hl : s.data.toList with
          | nil => exact absurd (by have := congrArg List.length hl; simpa using this) h0
          | cons a l => rfl
        have h1 : 1 ≤ s.size := by omega
        clear h0
        by_cases h64 : s.size ≤ 64
        · go_wp2_with fail
          go_ret
          exact ⟨ret_bool (by rw [wordS, HD.out]; simp [h1, h64]; omega), rfl⟩
        · go_wp2_with fail
          go_ret
          exact ⟨ret_bool (by rw [wordS, HD.out]; simp [h64]; omega), rfl⟩
/-- fold.Word. -/
theorem word_any (s : ByteArray) (w : World) (hs : s.size ≤ 9223372036854775807) :
    Calls Tryz.prog 46 #[.string s] w fun e w' => e = .returned (.bool (wordS s)) ∧ w = w' := by
  go_enter Tryz.func46, Tryz.ntmps46
  go_wp2_with fail
  refine (made_word s w hs).mono ?_
  rintro e w1 ⟨rfl, rfl⟩
  go_wp2_with fail
  go_ret
  exact ⟨rfl, rfl⟩
end Go.Proofs.YthdpkfddmkijlaaGreatDoor

/- Instants: clock.Valid and its reference. -/
namespace Go.Proofs.YthdpkfddmkijlaaGreatDoor
open Go.RowKit

def validT (t : Int) : Bool := decide (0 ≤ t ∧ t ≤ 1099511627776)
/-- The nearest instant. -/
def limT (t : Int) : Int := min (max t 0) 1099511627776
theorem climited_any (t : Int) (w : World) :
    Calls Tryz.prog 71 #[.int .i64 t] w fun e w' => e = .returned (.int .i64 (limT t)) ∧ w = w' := by
  go_enter Tryz.func71, Tryz.ntmps71
  go_wp2_with fail
  all_goals
    go_ret
    exact ⟨ret_int (by unfold limT; omega), rfl⟩
theorem cvalid_any (t : Int) (w : World) :
    Calls Tryz.prog 45 #[.int .i64 t] w fun e w' => e = .returned (.bool (validT t)) ∧ w = w' := by
  have HV : Hid ((t == limT t) = validT t) := Lib.hid (by
    unfold limT validT
    by_cases h : 0 ≤ t ∧ t ≤ 1099511627776
    · rw [decide_eq_true h, beq_iff_eq]; omega
    · rw [decide_eq_false h, beq_eq_false_iff_ne]; omega)
  obtain ⟨m, HM⟩ : ∃ m, Hid (limT t = m) := ⟨_, Lib.hid rfl⟩
  rw [HM.out] at HV
  go_enter Tryz.func45, Tryz.ntmps45
  go_wp2_with fail
  refine (climited_any t w).mono ?_
  rintro e w1 ⟨rfl, rfl⟩
  rw [HM.out]
  go_wp2_with fail
  go_ret
  exact ⟨ret_bool HV.out, rfl⟩
theorem rvalidT_any (t : Int) (w : World) :
    Calls Tryz.prog 49 #[.int .i64 t] w fun e w' => e = .returned (.bool (validT t)) ∧ w = w' := by
  by_cases h0 : 0 ≤ t
  · have HV : Hid (decide (t ≤ 1099511627776) = validT t) := Lib.hid (by
      unfold validT; exact decide_eq_decide.2 ⟨fun h => ⟨h0, h⟩, fun h => h.2⟩)
    go_enter Tryz.func49, Tryz.ntmps49
    go_wp2_with fail
    go_ret
    exact ⟨ret_bool HV.out, rfl⟩
  · have HV : Hid (false = validT t) := Lib.hid (by unfold validT; exact (decide_eq_false (fun h => h0 h.1)).symm)
    go_enter Tryz.func49, Tryz.ntmps49
    go_wp2_with fail
    go_ret
    exact ⟨ret_bool HV.out, rfl⟩
end Go.Proofs.YthdpkfddmkijlaaGreatDoor

/- Audit events: plain. -/
namespace Go.Proofs.YthdpkfddmkijlaaGreatDoor
open Go.RowKit

/-- An event. -/
structure Ev where
  time : Int
  tenant : ByteArray
  actor : ByteArray
  action : ByteArray
  object : ByteArray
  result : Int
theorem Ev.eq {a b : Ev} (h1 : a.time = b.time) (h2 : a.tenant = b.tenant) (h3 : a.actor = b.actor) (h4 : a.action = b.action) (h5 : a.object = b.object) (h6 : a.result = b.result) : a = b := by
  cases a; cases b; simp_all
/-- Its value. -/
def evV (e : Ev) : Value := .agg #[.int .i64 e.time, .string e.tenant, .string e.actor, .string e.action, .string e.object, .int .i64 e.result]

def optW (s : ByteArray) : Bool := decide (s.size = 0) || wordS s
def evNames (e : Ev) : Bool := wordS e.tenant && wordS e.action && optW e.actor && optW e.object
def resOk (n : Int) : Bool := decide (0 ≤ n ∧ n ≤ 32)
def evParts (e : Ev) : List ByteArray := [itoaS e.time, e.tenant, e.actor, e.action, e.object, itoaS e.result]
def lineE (e : Ev) : Int := if validT e.time = true then (if evNames e = true then (if resOk e.result = true then 0 else 2) else 5) else 2
def lineS (e : Ev) : ByteArray := if lineE e = 0 then joinS (evParts e) else ⟨#[]⟩
theorem lineE_ok {e : Ev} (h : lineE e = 0) : validT e.time = true ∧ evNames e = true ∧ resOk e.result = true := by
  unfold lineE at h
  by_cases h1 : validT e.time = true
  · rw [if_pos h1] at h
    by_cases h2 : evNames e = true
    · rw [if_pos h2] at h
      by_cases h3 : resOk e.result = true
      · exact ⟨h1, h2, h3⟩
      · rw [if_neg h3] at h; omega
    · rw [if_neg h2] at h; omega
  · rw [if_neg h1] at h; omega
theorem lineE_mk {e : Ev} (h1 : validT e.time = true) (h2 : evNames e = true) (h3 : resOk e.result = true) : lineE e = 0 := by
  rw [lineE, if_pos h1, if_pos h2, if_pos h3]
theorem lineS_ok {e : Ev} (h : lineE e = 0) : lineS e = joinS (evParts e) := by rw [lineS, if_pos h]
theorem lineS_bad {e : Ev} (h : lineE e ≠ 0) : lineS e = ⟨#[]⟩ := by rw [lineS, if_neg h]
theorem wordS_size {s : ByteArray} (h : wordS s = true) : 1 ≤ s.size ∧ s.size ≤ 64 := by
  rw [wordS, Bool.and_eq_true, decide_eq_true_iff] at h; exact h.1
theorem optW_size {s : ByteArray} (h : optW s = true) : s.size ≤ 64 := by
  rw [optW, Bool.or_eq_true, decide_eq_true_iff] at h
  rcases h with h | h
  · omega
  · exact (wordS_size h).2
theorem evNames_size {e : Ev} (h : evNames e = true) : e.tenant.size ≤ 64 ∧ e.actor.size ≤ 64 ∧ e.action.size ≤ 64 ∧ e.object.size ≤ 64 := by
  rw [evNames, Bool.and_eq_true, Bool.and_eq_true, Bool.and_eq_true] at h
  exact ⟨(wordS_size h.1.1.1).2, optW_size h.1.2, (wordS_size h.1.1.2).2, optW_size h.2⟩
theorem validT_in {t : Int} (h : validT t = true) : 0 ≤ t ∧ t ≤ 1099511627776 := by rw [validT, decide_eq_true_iff] at h; exact h
theorem resOk_in {t : Int} (h : resOk t = true) : 0 ≤ t ∧ t ≤ 32 := by rw [resOk, decide_eq_true_iff] at h; exact h
theorem evParts_size {e : Ev} (h1 : validT e.time = true) (h2 : evNames e = true) (h3 : resOk e.result = true) : ∀ s ∈ evParts e, s.size ≤ 64 := by
  have h := evNames_size h2
  have e1 := validT_in h1
  have e2 := resOk_in h3
  have z1 := itoaS_size e.time (by omega) (by omega)
  have z2 := itoaS_size e.result (by omega) (by omega)
  intro s hs
  simp only [evParts, List.mem_cons, List.not_mem_nil, or_false] at hs
  rcases hs with rfl | rfl | rfl | rfl | rfl | rfl <;> omega
theorem lineS_size (e : Ev) : (lineS e).size ≤ 2000 := by
  by_cases h : lineE e = 0
  · obtain ⟨h1, h2, h3⟩ := lineE_ok h
    rw [lineS_ok h]
    have := joinS_le (evParts e) 64 (evParts_size h1 h2 h3)
    have e6 : (evParts e).length = 6 := rfl
    rw [e6] at this; omega
  · rw [lineS_bad h]; show 0 ≤ _; omega
/-- The event of six strings. -/
def evOf (l : List ByteArray) : Ev := ⟨(readIntP (l.getD 0 ⟨#[]⟩)).1, l.getD 1 ⟨#[]⟩, l.getD 2 ⟨#[]⟩, l.getD 3 ⟨#[]⟩, l.getD 4 ⟨#[]⟩, (readIntP (l.getD 5 ⟨#[]⟩)).1⟩
def zeroEv : Ev := ⟨0, ⟨#[]⟩, ⟨#[]⟩, ⟨#[]⟩, ⟨#[]⟩, 0⟩
open Classical in
noncomputable def parseOk (s : ByteArray) : Bool := decide (splitErr s = 0 ∧ (splitS s).length = 6 ∧ lineE (evOf (splitS s)) = 0 ∧ lineS (evOf (splitS s)) = s)
noncomputable def parseS (s : ByteArray) : Ev := if parseOk s = true then evOf (splitS s) else zeroEv
noncomputable def parseE (s : ByteArray) : Int := if parseOk s = true then 0 else 4
theorem parseOk_mk {s : ByteArray} (h1 : splitErr s = 0) (h2 : (splitS s).length = 6) (h3 : lineE (evOf (splitS s)) = 0) (h4 : lineS (evOf (splitS s)) = s) : parseOk s = true := by
  rw [parseOk, decide_eq_true_iff]; exact ⟨h1, h2, h3, h4⟩
theorem parseOk_parts {s : ByteArray} (h : parseOk s = true) : splitErr s = 0 ∧ (splitS s).length = 6 ∧ lineE (evOf (splitS s)) = 0 ∧ lineS (evOf (splitS s)) = s := by
  rw [parseOk, decide_eq_true_iff] at h; exact h
theorem parse_ok {s : ByteArray} (h : parseOk s = true) : parseS s = evOf (splitS s) ∧ parseE s = 0 := by rw [parseS, parseE, if_pos h, if_pos h]; exact ⟨rfl, rfl⟩
theorem parse_bad {s : ByteArray} (h : ¬ parseOk s = true) : parseS s = zeroEv ∧ parseE s = 4 := by rw [parseS, parseE, if_neg h, if_neg h]; exact ⟨rfl, rfl⟩
theorem evOf_parts (e : Ev) (h : lineE e = 0) : evOf (evParts e) = e := by
  obtain ⟨h1, _, h3⟩ := lineE_ok h
  have e1 := validT_in h1
  have e2 := resOk_in h3
  have r1 := readInt_itoa e.time (by omega) (by omega)
  have r2 := readInt_itoa e.result (by omega) (by omega)
  cases e
  simp only [evOf, evParts, List.getD_cons_zero, List.getD_cons_succ] at r1 r2 ⊢
  rw [r1, r2]
theorem split_line {e : Ev} (h : lineE e = 0) : splitO (lineS e) = some (evParts e) := by
  rw [lineS_ok h]; exact split_joinS _
theorem split_of {s : ByteArray} {l : List ByteArray} (h : splitO s = some l) : splitS s = l ∧ splitErr s = 0 := by
  rw [splitS, splitErr, h]; exact ⟨rfl, rfl⟩
/-- What is written is read. -/
theorem line_back {e : Ev} (h : lineE e = 0) : parseOk (lineS e) = true ∧ parseS (lineS e) = e := by
  have h2 := split_of (split_line h)
  have h3 := evOf_parts e h
  have hp : parseOk (lineS e) = true := parseOk_mk h2.2 (by rw [h2.1]; rfl) (by rw [h2.1, h3]; exact h) (by rw [h2.1, h3])
  exact ⟨hp, by rw [(parse_ok hp).1, h2.1, h3]⟩
theorem lineS_inj {a b : Ev} (ha : lineE a = 0) (hb : lineE b = 0) (h : lineS a = lineS b) : a = b := by
  have h1 := (line_back ha).2
  have h2 := (line_back hb).2
  rw [← h1, ← h2, h]
/-- The numbers of a string that is a line were read. -/
theorem parse_reads {s : ByteArray} (h : parseOk s = true) : (readIntP ((splitS s).getD 0 ⟨#[]⟩)).2 = 0 ∧ (readIntP ((splitS s).getD 5 ⟨#[]⟩)).2 = 0 := by
  obtain ⟨h1, h2, h3, h4⟩ := parseOk_parts h
  have h5 := split_line h3
  rw [h4] at h5
  have h6 := (split_of h5).1
  obtain ⟨k1, _, k3⟩ := lineE_ok h3
  have e1 := validT_in k1
  have e2 := resOk_in k3
  have r1 := readInt_itoa _ (show -9223372036854775808 ≤ (evOf (splitS s)).time by omega) (by omega)
  have r2 := readInt_itoa _ (show -9223372036854775808 ≤ (evOf (splitS s)).result by omega) (by omega)
  generalize evOf (splitS s) = x at h6 r1 r2
  rw [h6]
  exact ⟨by rw [show (evParts x).getD 0 ⟨#[]⟩ = itoaS x.time from rfl, r1], by rw [show (evParts x).getD 5 ⟨#[]⟩ = itoaS x.result from rfl, r2]⟩
/-- The heads after the events, from a head on, and the error. -/
def headsF (h : ByteArray) : List Ev → List ByteArray
  | [] => []
  | e :: l => chainS h (lineS e) :: headsF (chainS h (lineS e)) l
def firstE : List Ev → Int
  | [] => 0
  | e :: l => if lineE e = 0 then firstE l else lineE e
def startS : ByteArray := textS ⟨#[]⟩
def headsS (l : List Ev) : List ByteArray := if firstE l = 0 then headsF startS l else []
/-- The head after the events. -/
def headF (h : ByteArray) (l : List Ev) : ByteArray := l.foldl (fun h e => chainS h (lineS e)) h
/-- Verify from an index on. -/
def verF (h : ByteArray) (i : Nat) : List Ev → List ByteArray → Option Nat
  | [], [] => none
  | [], _ :: _ => some i
  | _ :: _, [] => some i
  | e :: l, x :: hs => if lineE e = 0 ∧ x = chainS h (lineS e) then verF (chainS h (lineS e)) (i + 1) l hs else some i
def verC : Option Nat → Int
  | none => -1
  | some i => (i : Int)
def verS (l : List Ev) (hs : List ByteArray) : Int := verC (verF startS 0 l hs)
end Go.Proofs.YthdpkfddmkijlaaGreatDoor

/- Arguments of type api.Event and []api.Event, opened. -/
namespace Go.Proofs.YthdpkfddmkijlaaGreatDoor
open Go.ChangeShapes Go.WideShapes Go.ChangeAt Go.RowKit Go.Deep

instance : Inhabited Ev := ⟨zeroEv⟩
/-- An event's cells. -/
def evC (e : Ev) : List Value := [.int .i64 e.time, .string e.tenant, .string e.actor, .string e.action, .string e.object, .int .i64 e.result]
/-- A number of 64 bits. -/
def EvIn (e : Ev) : Prop := -9223372036854775808 ≤ e.time ∧ e.time ≤ 9223372036854775807 ∧ -9223372036854775808 ≤ e.result ∧ e.result ≤ 9223372036854775807 ∧ e.tenant.size ≤ 9223372036854775807 ∧ e.actor.size ≤ 9223372036854775807 ∧ e.action.size ≤ 9223372036854775807 ∧ e.object.size ≤ 9223372036854775807
/-- A slice's address reads as a list of events. -/
def EvsAt (w : World) (A : Option Addr) (l : List Ev) : Prop :=
  ∀ i, (h : i < l.length) → ∃ b o, A = some ⟨b, o, none⟩ ∧ w.cell? ⟨b, o + i * 6, none⟩ = some (.int .i64 l[i].time) ∧ w.cell? ⟨b, o + i * 6 + 1, none⟩ = some (.string l[i].tenant) ∧ w.cell? ⟨b, o + i * 6 + 2, none⟩ = some (.string l[i].actor) ∧ w.cell? ⟨b, o + i * 6 + 3, none⟩ = some (.string l[i].action) ∧ w.cell? ⟨b, o + i * 6 + 4, none⟩ = some (.string l[i].object) ∧ w.cell? ⟨b, o + i * 6 + 5, none⟩ = some (.int .i64 l[i].result)
theorem EvsAt.below {w w' : World} {A : Option Addr} {l : List Ev} (h : EvsAt w A l) (hb : Below w.heap.size w w') : EvsAt w' A l := by
  intro i hi
  obtain ⟨b, o, e, h0, h1, h2, h3, h4, h5⟩ := h i hi
  have hl := World.block_lt_of_cell? w _ h0
  have hc : ∀ j, w'.cell? ⟨b, j, none⟩ = w.cell? ⟨b, j, none⟩ := fun j => hb.cell (p := ⟨b, j, none⟩) hl
  exact ⟨b, o, e, (hc _).trans h0, (hc _).trans h1, (hc _).trans h2, (hc _).trans h3, (hc _).trans h4, (hc _).trans h5⟩
theorem ev_cells {H : Type} {enc : TypeId × Value → H} {P : Program} {W : World} {e : TypeId} {f0 f1 f2 f3 f4 f5 : Field} {n : Nat} {cs : List Value} {y : DataW H × List MemPlace}
    (he : P.underlying e = some (.struct #[f0, f1, f2, f3, f4, f5])) (hl : cs.length = 6) (ho : f0.offset = 0 ∧ f1.offset = 1 ∧ f2.offset = 2 ∧ f3.offset = 3 ∧ f4.offset = 4 ∧ f5.offset = 5)
    (hs0 : P.underlying f0.type = some (.int .i64)) (hs1 : P.underlying f1.type = some .string) (hs2 : P.underlying f2.type = some .string) (hs3 : P.underlying f3.type = some .string) (hs4 : P.underlying f4.type = some .string) (hs5 : P.underlying f5.type = some (.int .i64))
    (hc : P.cellsOf f0.type = 1 ∧ P.cellsOf f1.type = 1 ∧ P.cellsOf f2.type = 1 ∧ P.cellsOf f3.type = 1 ∧ P.cellsOf f4.type = 1 ∧ P.cellsOf f5.type = 1)
    (hy : DataW.trod enc P W 0 (fun _ => true) true n e cs = some y) : ∃ x : Ev, cs = evC x ∧ EvIn x := by
  obtain ⟨z0, e0, w0⟩ := field_int he hy 0 f0 rfl hs0 hc.1
  obtain ⟨s1, e1, w1⟩ := field_str he hy 1 f1 rfl hs1 hc.2.1
  obtain ⟨s2, e2, w2⟩ := field_str he hy 2 f2 rfl hs2 hc.2.2.1
  obtain ⟨s3, e3, w3⟩ := field_str he hy 3 f3 rfl hs3 hc.2.2.2.1
  obtain ⟨s4, e4, w4⟩ := field_str he hy 4 f4 rfl hs4 hc.2.2.2.2.1
  obtain ⟨z5, e5, w5⟩ := field_int he hy 5 f5 rfl hs5 hc.2.2.2.2.2
  rw [ho.1] at e0
  rw [ho.2.1] at e1
  rw [ho.2.2.1] at e2
  rw [ho.2.2.2.1] at e3
  rw [ho.2.2.2.2.1] at e4
  rw [ho.2.2.2.2.2] at e5
  obtain ⟨a1, a2⟩ := bounds_i64 w0
  obtain ⟨a3, a4⟩ := bounds_i64 w5
  refine ⟨⟨z0, s1, s2, s3, s4, z5⟩, ?_, a1, a2, a3, a4, w1, w2, w3, w4⟩
  match cs, hl with
  | [v0, v1, v2, v3, v4, v5], _ =>
    simp only [List.getElem?_cons_zero, List.getElem?_cons_succ, Option.some.injEq] at e0 e1 e2 e3 e4 e5
    subst e0 e1 e2 e3 e4 e5
    rfl
theorem open_ev {H : Type} {enc : TypeId × Value → H} {P : Program} {W : World} {b0 : Nat} {e : TypeId} {f0 f1 f2 f3 f4 f5 : Field} {v : Value} {d : DataW H} {p : List MemPlace}
    (he : P.underlying e = some (.struct #[f0, f1, f2, f3, f4, f5])) (hce : P.cellsOf e = 6) (ho : f0.offset = 0 ∧ f1.offset = 1 ∧ f2.offset = 2 ∧ f3.offset = 3 ∧ f4.offset = 4 ∧ f5.offset = 5)
    (hs0 : P.underlying f0.type = some (.int .i64)) (hs1 : P.underlying f1.type = some .string) (hs2 : P.underlying f2.type = some .string) (hs3 : P.underlying f3.type = some .string) (hs4 : P.underlying f4.type = some .string) (hs5 : P.underlying f5.type = some (.int .i64))
    (hc : P.cellsOf f0.type = 1 ∧ P.cellsOf f1.type = 1 ∧ P.cellsOf f2.type = 1 ∧ P.cellsOf f3.type = 1 ∧ P.cellsOf f4.type = 1 ∧ P.cellsOf f5.type = 1)
    (hval : Value.okWide P W .any b0 e v) (hd : DataW.Trod enc P W 0 (fun _ => true) true e v d p) : ∃ x : Ev, v = evV x ∧ EvIn x := by
  obtain ⟨cs, rfl, hsz⟩ := okWide_struct he hval
  obtain ⟨fuel, hf⟩ := hd
  obtain ⟨x, hx, hin⟩ := ev_cells (cs := cs.toList) he (by simp [hsz, hce]) ho hs0 hs1 hs2 hs3 hs4 hs5 hc (by simpa [Value.cells] using hf)
  refine ⟨x, ?_, hin⟩
  have : cs = (evC x).toArray := by rw [← hx]
  rw [this]; rfl
theorem open_evs {H : Type} {enc : TypeId × Value → H} {P : Program} {W : World} {b0 : Nat} {t e : TypeId} {f0 f1 f2 f3 f4 f5 : Field} {v : Value} {d : DataW H} {p : List MemPlace}
    (ht : P.underlying t = some (.slice e)) (he : P.underlying e = some (.struct #[f0, f1, f2, f3, f4, f5])) (hce : P.cellsOf e = 6) (ho : f0.offset = 0 ∧ f1.offset = 1 ∧ f2.offset = 2 ∧ f3.offset = 3 ∧ f4.offset = 4 ∧ f5.offset = 5)
    (hs0 : P.underlying f0.type = some (.int .i64)) (hs1 : P.underlying f1.type = some .string) (hs2 : P.underlying f2.type = some .string) (hs3 : P.underlying f3.type = some .string) (hs4 : P.underlying f4.type = some .string) (hs5 : P.underlying f5.type = some (.int .i64))
    (hc : P.cellsOf f0.type = 1 ∧ P.cellsOf f1.type = 1 ∧ P.cellsOf f2.type = 1 ∧ P.cellsOf f3.type = 1 ∧ P.cellsOf f4.type = 1 ∧ P.cellsOf f5.type = 1)
    (hval : Value.okWide P W .any b0 t v) (hd : DataW.Trod enc P W 0 (fun _ => true) true t v d p) :
    ∃ A l c, v = .slice A (l : List Ev).length c ∧ EvsAt W A l ∧ l.length ≤ c ∧ l.length ≤ 9223372036854775807 ∧ ∀ x ∈ l, EvIn x := by
  obtain ⟨A, len, cap, rfl, hl, hm, hi⟩ := open_at' ht (by omega) hval hd
  have each : ∀ i, i < len → ∃ x : Ev, (∃ b o, A = some ⟨b, o, none⟩ ∧ ∀ j, j < 6 → W.cell? ⟨b, o + i * 6 + j, none⟩ = (evC x)[j]?) ∧ EvIn x := by
    intro i hil
    obtain ⟨b, o, n, y, cs, hA, hcell, hcl, hy⟩ := hi i hil
    rw [hce] at hcell hcl
    obtain ⟨x, rfl, hin⟩ := ev_cells he hcl ho hs0 hs1 hs2 hs3 hs4 hs5 hc hy
    exact ⟨x, ⟨b, o, hA, hcell⟩, hin⟩
  obtain ⟨f, hf⟩ := choose_lt each
  have hlen : ((List.range len).map f).length = len := by simp
  refine ⟨A, (List.range len).map f, cap, by rw [hlen], ?_, by rw [hlen]; exact hl, by rw [hlen]; omega, fun x hx => ?_⟩
  · intro i hi'
    obtain ⟨⟨b, o, hA, h⟩, _⟩ := hf i (by simpa using hi')
    refine ⟨b, o, hA, ?_⟩
    simp only [List.getElem_map, List.getElem_range]
    exact ⟨h 0 (by omega), h 1 (by omega), h 2 (by omega), h 3 (by omega), h 4 (by omega), h 5 (by omega)⟩
  · simp only [List.mem_map, List.mem_range] at hx
    obtain ⟨i, hi', rfl⟩ := hx
    exact (hf i hi').2
end Go.Proofs.YthdpkfddmkijlaaGreatDoor

/- identityref01.Word. -/
namespace Go.Proofs.YthdpkfddmkijlaaGreatDoor
open Go.RowKit

def letterC (c : UInt8) : Bool := decide ((97 ≤ c.toNat ∧ c.toNat ≤ 122) ∨ (65 ≤ c.toNat ∧ c.toNat ≤ 90))
def digitC (c : UInt8) : Bool := decide (48 ≤ c.toNat ∧ c.toNat ≤ 57)
theorem rletter_any (c : UInt8) (w : World) :
    Calls Tryz.prog 79 #[.int .u8 (c.toNat : Int)] w fun e w' => e = .returned (.bool (letterC c)) ∧ w = w' := by
  have hcs : (97 ≤ c.toNat ∧ c.toNat ≤ 122) ∨ (65 ≤ c.toNat ∧ c.toNat ≤ 90) ∨ c.toNat < 65 ∨ (90 < c.toNat ∧ c.toNat < 97) ∨ 122 < c.toNat := by omega
  go_enter Tryz.func79, Tryz.ntmps79
  have HN : Hid (∀ b : Bool, (b = true ↔ ((97 ≤ c.toNat ∧ c.toNat ≤ 122) ∨ (65 ≤ c.toNat ∧ c.toNat ≤ 90))) → b = letterC c) := Lib.hid (fun b h => by rw [Bool.eq_iff_iff, h, letterC, decide_eq_true_iff])
  generalize c.toNat = n at *
  rcases hcs with ⟨h1, h2⟩ | ⟨h1, h2⟩ | h | ⟨h1, h2⟩ | h
  all_goals
    go_wp2
    go_ret
    exact ⟨ret_bool (HN.out _ (by simp; try omega)), rfl⟩
theorem rdigit_any (c : UInt8) (w : World) :
    Calls Tryz.prog 80 #[.int .u8 (c.toNat : Int)] w fun e w' => e = .returned (.bool (digitC c)) ∧ w = w' := by
  have hcs : (48 ≤ c.toNat ∧ c.toNat ≤ 57) ∨ c.toNat < 48 ∨ 57 < c.toNat := by omega
  go_enter Tryz.func80, Tryz.ntmps80
  have HN : Hid (∀ b : Bool, (b = true ↔ (48 ≤ c.toNat ∧ c.toNat ≤ 57)) → b = digitC c) := Lib.hid (fun b h => by rw [Bool.eq_iff_iff, h, digitC, decide_eq_true_iff])
  generalize c.toNat = n at *
  rcases hcs with ⟨h1, h2⟩ | h | h
  all_goals
    go_wp2
    go_ret
    exact ⟨ret_bool (HN.out _ (by simp; try omega)), rfl⟩
set_option maxHeartbeats 4000000 in
set_option maxRecDepth 100000 in
theorem rword_any (s : ByteArray) (w : World) (hs : s.size ≤ 9223372036854775807) :
    Calls Tryz.prog 50 #[.string s] w fun e w' => e = .returned (.bool (wordS s)) ∧ w = w' := by
  go_enter Tryz.func50, Tryz.ntmps50
  go_wp2_with fail
  go_loop [3] (fun j => ∃ k : Nat, k ≤ s.size ∧ j = .int .i64 k ∧ Hid ((s.data.toList.take k).all wordC = true)) (fun i => s.size - (intOf i).toNat)
  case atStart => exact ⟨0, Nat.zero_le _, rfl, Lib.hid (by simp)⟩
  case round =>
    obtain ⟨k, hk, rfl, HA⟩ := hrel
    by_cases hlt : k < s.size
    · have HT : Hid (wordC s[k] = true → (s.data.toList.take (k + 1)).all wordC = true) := Lib.hid (fun h => take_all hlt HA.out h)
      have HF : Hid (wordC s[k] = false → wordS s = false) := Lib.hid (fun h => by rw [wordS, all_bad hlt h, Bool.and_false])
      have HL := Lib.hid (rletter_any s[k] w)
      have HD := Lib.hid (rdigit_any s[k] w)
      have hcs : letterC s[k] = true ∨ (letterC s[k] = false ∧ digitC s[k] = true) ∨ (letterC s[k] = false ∧ digitC s[k] = false ∧ (s[k].toNat = 45 ∨ s[k].toNat = 95 ∨ s[k].toNat = 46 ∨ s[k].toNat = 58)) ∨ (letterC s[k] = false ∧ digitC s[k] = false ∧ s[k].toNat ≠ 45 ∧ s[k].toNat ≠ 95 ∧ s[k].toNat ≠ 46 ∧ s[k].toNat ≠ 58) := by
        by_cases h1 : letterC s[k] = true
        · exact .inl h1
        · have h1' : letterC s[k] = false := by simpa using h1
          by_cases h2 : digitC s[k] = true
          · exact .inr (.inl ⟨h1', h2⟩)
          · have h2' : digitC s[k] = false := by simpa using h2
            by_cases h3 : s[k].toNat = 45 ∨ s[k].toNat = 95 ∨ s[k].toNat = 46 ∨ s[k].toNat = 58
            · exact .inr (.inr (.inl ⟨h1', h2', h3⟩))
            · exact .inr (.inr (.inr ⟨h1', h2', by omega, by omega, by omega, by omega⟩))
      rcases hcs with h1 | ⟨h1, h2⟩ | ⟨h1, h2, h3⟩ | ⟨h1, h2, h3, h4, h5, h6⟩
      · have HS := Lib.hid (HT.out (by rw [letterC, decide_eq_true_iff] at h1; rw [wordC, alnumC, Bool.or_eq_true, decide_eq_true_iff]; omega))
        have H1 := Lib.hid h1
        clear h1
        go_wp2_with fail
        refine (Calls.mono HL.out ?_)
        rintro e wsame ⟨rfl, rfl⟩
        rw [H1.out]
        go_wp2_with fail
        go_round
        case rel => exact ⟨k + 1, hlt, by go_num, HS⟩
        case measure => simp [intOf]; omega
      · have HS := Lib.hid (HT.out (by rw [digitC, decide_eq_true_iff] at h2; rw [wordC, alnumC, Bool.or_eq_true, decide_eq_true_iff]; omega))
        have H1 := Lib.hid h1
        have H2 := Lib.hid h2
        clear h1 h2
        go_wp2_with fail
        refine (Calls.mono HL.out ?_)
        rintro e wsame ⟨rfl, rfl⟩
        rw [H1.out]
        go_wp2_with fail
        refine (Calls.mono HD.out ?_)
        rintro e wsame ⟨rfl, rfl⟩
        rw [H2.out]
        go_wp2_with fail
        go_round
        case rel => exact ⟨k + 1, hlt, by go_num, HS⟩
        case measure => simp [intOf]; omega
      · have HS := Lib.hid (HT.out (by rw [wordC, Bool.or_eq_true, decide_eq_true_iff]; exact .inr h3))
        have H1 := Lib.hid h1
        have H2 := Lib.hid h2
        clear h1 h2
        rcases h3 with h3 | h3 | h3 | h3
        ·
          have b0 : ((s[k].toNat : Int) == 45) = true := by rw [h3]; rfl
          have d0 : ((s[k].toNat : Int) != 45) = false := by rw [h3]; rfl
          have b1 : ((s[k].toNat : Int) == 95) = false := by rw [h3]; rfl
          have d1 : ((s[k].toNat : Int) != 95) = true := by rw [h3]; rfl
          have b2 : ((s[k].toNat : Int) == 46) = false := by rw [h3]; rfl
          have d2 : ((s[k].toNat : Int) != 46) = true := by rw [h3]; rfl
          have b3 : ((s[k].toNat : Int) == 58) = false := by rw [h3]; rfl
          have d3 : ((s[k].toNat : Int) != 58) = true := by rw [h3]; rfl
          clear h3
          go_wp2_with fail
          refine (Calls.mono HL.out ?_)
          rintro e wsame ⟨rfl, rfl⟩
          rw [H1.out]
          go_wp2_with fail
          refine (Calls.mono HD.out ?_)
          rintro e wsame ⟨rfl, rfl⟩
          rw [H2.out]
          go_wp2_with fail
          go_round
          case rel => exact ⟨k + 1, hlt, by go_num, HS⟩
          case measure => simp [intOf]; omega
        ·
          have b0 : ((s[k].toNat : Int) == 45) = false := by rw [h3]; rfl
          have d0 : ((s[k].toNat : Int) != 45) = true := by rw [h3]; rfl
          have b1 : ((s[k].toNat : Int) == 95) = true := by rw [h3]; rfl
          have d1 : ((s[k].toNat : Int) != 95) = false := by rw [h3]; rfl
          have b2 : ((s[k].toNat : Int) == 46) = false := by rw [h3]; rfl
          have d2 : ((s[k].toNat : Int) != 46) = true := by rw [h3]; rfl
          have b3 : ((s[k].toNat : Int) == 58) = false := by rw [h3]; rfl
          have d3 : ((s[k].toNat : Int) != 58) = true := by rw [h3]; rfl
          clear h3
          go_wp2_with fail
          refine (Calls.mono HL.out ?_)
          rintro e wsame ⟨rfl, rfl⟩
          rw [H1.out]
          go_wp2_with fail
          refine (Calls.mono HD.out ?_)
          rintro e wsame ⟨rfl, rfl⟩
          rw [H2.out]
          go_wp2_with fail
          go_round
          case rel => exact ⟨k + 1, hlt, by go_num, HS⟩
          case measure => simp [intOf]; omega
        ·
          have b0 : ((s[k].toNat : Int) == 45) = false := by rw [h3]; rfl
          have d0 : ((s[k].toNat : Int) != 45) = true := by rw [h3]; rfl
          have b1 : ((s[k].toNat : Int) == 95) = false := by rw [h3]; rfl
          have d1 : ((s[k].toNat : Int) != 95) = true := by rw [h3]; rfl
          have b2 : ((s[k].toNat : Int) == 46) = true := by rw [h3]; rfl
          have d2 : ((s[k].toNat : Int) != 46) = false := by rw [h3]; rfl
          have b3 : ((s[k].toNat : Int) == 58) = false := by rw [h3]; rfl
          have d3 : ((s[k].toNat : Int) != 58) = true := by rw [h3]; rfl
          clear h3
          go_wp2_with fail
          refine (Calls.mono HL.out ?_)
          rintro e wsame ⟨rfl, rfl⟩
          rw [H1.out]
          go_wp2_with fail
          refine (Calls.mono HD.out ?_)
          rintro e wsame ⟨rfl, rfl⟩
          rw [H2.out]
          go_wp2_with fail
          go_round
          case rel => exact ⟨k + 1, hlt, by go_num, HS⟩
          case measure => simp [intOf]; omega
        ·
          have b0 : ((s[k].toNat : Int) == 45) = false := by rw [h3]; rfl
          have d0 : ((s[k].toNat : Int) != 45) = true := by rw [h3]; rfl
          have b1 : ((s[k].toNat : Int) == 95) = false := by rw [h3]; rfl
          have d1 : ((s[k].toNat : Int) != 95) = true := by rw [h3]; rfl
          have b2 : ((s[k].toNat : Int) == 46) = false := by rw [h3]; rfl
          have d2 : ((s[k].toNat : Int) != 46) = true := by rw [h3]; rfl
          have b3 : ((s[k].toNat : Int) == 58) = true := by rw [h3]; rfl
          have d3 : ((s[k].toNat : Int) != 58) = false := by rw [h3]; rfl
          clear h3
          go_wp2_with fail
          refine (Calls.mono HL.out ?_)
          rintro e wsame ⟨rfl, rfl⟩
          rw [H1.out]
          go_wp2_with fail
          refine (Calls.mono HD.out ?_)
          rintro e wsame ⟨rfl, rfl⟩
          rw [H2.out]
          go_wp2_with fail
          go_round
          case rel => exact ⟨k + 1, hlt, by go_num, HS⟩
          case measure => simp [intOf]; omega
      · have HS := Lib.hid (HF.out (by
          rw [letterC, decide_eq_false_iff_not] at h1
          rw [digitC, decide_eq_false_iff_not] at h2
          rw [wordC, alnumC, Bool.or_eq_false_iff, decide_eq_false_iff_not, decide_eq_false_iff_not]; omega))
        have H1 := Lib.hid h1
        have H2 := Lib.hid h2
        have b1 : ((s[k].toNat : Int) == 45) = false := by rw [beq_eq_false_iff_ne]; omega
        have b2 : ((s[k].toNat : Int) == 95) = false := by rw [beq_eq_false_iff_ne]; omega
        have b3 : ((s[k].toNat : Int) == 46) = false := by rw [beq_eq_false_iff_ne]; omega
        have b4 : ((s[k].toNat : Int) == 58) = false := by rw [beq_eq_false_iff_ne]; omega
        have d1 : ((s[k].toNat : Int) != 45) = true := by rw [bne_iff_ne]; omega
        have d2 : ((s[k].toNat : Int) != 95) = true := by rw [bne_iff_ne]; omega
        have d3 : ((s[k].toNat : Int) != 46) = true := by rw [bne_iff_ne]; omega
        have d4 : ((s[k].toNat : Int) != 58) = true := by rw [bne_iff_ne]; omega
        clear h1 h2 h3 h4 h5 h6
        go_wp2_with fail
        refine (Calls.mono HL.out ?_)
        rintro e wsame ⟨rfl, rfl⟩
        rw [H1.out]
        go_wp2_with fail
        refine (Calls.mono HD.out ?_)
        rintro e wsame ⟨rfl, rfl⟩
        rw [H2.out]
        go_wp2_with fail
        go_ret
        exact ⟨ret_bool HS.out.symm, rfl⟩
    · have HD := Lib.hid (all_done hlt HA.out)
      by_cases h1 : 1 ≤ s.size
      · have HQ : Hid (decide ((s.size : Int) ≤ 64) = wordS s) := Lib.hid (by rw [wordS, HD.out, Bool.and_true]; exact decide_eq_decide.2 (by omega))
        go_wp2_with fail
        go_ret
        exact ⟨ret_bool HQ.out, rfl⟩
      · have HQ : Hid (false = wordS s) := Lib.hid (by rw [wordS, HD.out, Bool.and_true]; exact (decide_eq_false (by omega)).symm)
        go_wp2_with fail
        go_ret
        exact ⟨ret_bool HQ.out, rfl⟩
end Go.Proofs.YthdpkfddmkijlaaGreatDoor

