/- codec.Join and its reference compute joinS. -/
import Derived.Test.YtnkblimmlkidcaaDoorCodSJoin
import Derived.Test.YtnkblimmlkidcaaDoorCodBetween
import Derived.Test.YtnkblimmlkidcaaDoorCodRefEsc
import Derived.Deep.AppendLies
namespace Go.Proofs.YtnkblimmlkidcaaDoor
open Go.RowKit

theorem joinS_nil : joinS [] = ⟨#[45]⟩ := rfl
theorem joinS_dash : joinS [⟨#[45]⟩] = ⟨#[37, 50, 68]⟩ := by decide +kernel
theorem map_esc (l : List ByteArray) : (l.map escS).map (·.data.toList) = (l.map (·.data.toList)).map escL := by
  induction l with
  | nil => rfl
  | cons a l ih => simp only [List.map_cons, ih]; rfl
theorem joinS_else (l : List ByteArray) (h0 : l ≠ []) (h1 : l ≠ [⟨#[45]⟩]) : joinS l = joinC 124 (l.map escS) := by
  have e0 : ¬ l.map (·.data.toList) = [] := by simpa using h0
  have e1 : ¬ l.map (·.data.toList) = [[45]] := by
    intro e
    apply h1
    have := congrArg (List.map bsOf) e
    rw [map_bsOf] at this
    exact this
  rw [joinS, joinE, if_neg e0, if_neg e1, joinC, map_esc]
theorem escS_map (l : List ByteArray) (hz : ∀ s ∈ l, s.size ≤ 300000) : ∀ s ∈ l.map escS, s.size ≤ 1000000 := by
  intro s hs
  rw [List.mem_map] at hs
  obtain ⟨t, ht, rfl⟩ := hs
  have := escS_size t
  have := hz t ht
  omega
theorem dash_ne {s : ByteArray} (h : s ≠ ⟨#[45]⟩) : (s.toList == (⟨#[45]⟩ : ByteArray).toList) = false := str_ne h
theorem dash_list : (⟨#[45]⟩ : ByteArray).toList = [45] := by rw [Lib.toList_data]
theorem dash_ne' {s : ByteArray} (h : s ≠ ⟨#[45]⟩) : (s.toList == [45]) = false := by have := str_ne h; rwa [dash_list] at this
theorem one_of {l : List ByteArray} (h : l.length = 1) (h0 : 0 < l.length) : l = [l[0]] := by
  match l, h with
  | [s], _ => rfl

set_option maxHeartbeats 4000000 in
set_option maxRecDepth 100000 in
theorem cjoin_any (l : List ByteArray) (A : Option Addr) (cap : Nat) (w : World) (hS : Strs w A l) (hl : l.length ≤ 1000000) (hz : ∀ s ∈ l, s.size ≤ 300000) :
    Calls Tryd.prog 19 #[.slice A l.length cap] w fun e w' => e = .returned (.string (joinS l)) ∧ Below w.heap.size w w' := by
  have HZ := Lib.hid hz
  clear hz
  obtain ⟨i0, hi, hz0, hz1, hz2⟩ := info_parts Tryd.info_s
  go_enter Tryd.func19, Tryd.ntmps19
  by_cases h0 : l.length = 0
  · have he : l = [] := List.eq_nil_of_length_eq_zero h0
    subst he
    have HJ := Lib.hid joinS_nil
    go_wp2_with fail
    go_ret
    exact ⟨ret_str HJ.out.symm, Below.refl _ _⟩
  · have hlt0 : 0 < l.length := by omega
    have hb0 : ((l.length : Int) == 0) = false := by rw [beq_eq_false_iff_ne]; omega
    obtain ⟨b, o, rfl, hcell⟩ := hS 0 hlt0
    have hc0 : w.cell? ⟨b, o, none⟩ = some (.string l[0]) := by simpa using hcell
    have hcs : (l.length = 1 ∧ l[0] = ⟨#[45]⟩) ∨ (l.length = 1 ∧ l[0] ≠ ⟨#[45]⟩) ∨ l.length ≠ 1 := by
      by_cases h1 : l.length = 1
      · by_cases h2 : l[0] = ⟨#[45]⟩
        · exact .inl ⟨h1, h2⟩
        · exact .inr (.inl ⟨h1, h2⟩)
      · exact .inr (.inr h1)
    clear hcell h0
    rcases hcs with ⟨h1, h2⟩ | hcs
    · have HJ : Hid (joinS l = ⟨#[37, 50, 68]⟩) := by
        show _ = _
        rw [one_of h1 hlt0, h2]; exact joinS_dash
      have hb1 : ((l.length : Int) == 1) = true := by rw [beq_iff_eq]; omega
      rw [h2] at hc0
      clear h1 h2
      go_wp2_with fail
      go_ret
      exact ⟨ret_str HJ.out.symm, Below.refl _ _⟩
    · have HJ : Hid (joinS l = joinC 124 (l.map escS)) := Lib.hid (joinS_else l (by intro e; rw [e] at hlt0; exact absurd hlt0 (by simp)) (by
        intro e
        rcases hcs with ⟨_, h2⟩ | h1
        · exact h2 (by simp [e])
        · exact h1 (by simp [e])))
      obtain ⟨x0, hx0⟩ : ∃ x0, l[0] = x0 := ⟨_, rfl⟩
      rw [hx0] at hcs hc0
      have HX0 := Lib.hid hx0
      clear hx0
      have hcs2 : (((l.length : Int) == 1) = true ∧ (x0.toList == [45]) = false) ∨ ((l.length : Int) == 1) = false := by
        rcases hcs with ⟨h1, h2⟩ | h1
        · exact .inl ⟨by rw [beq_iff_eq]; omega, dash_ne' h2⟩
        · exact .inr (by rw [beq_eq_false_iff_ne]; omega)
      clear hcs
      rcases hcs2 with ⟨hb1, hsd⟩ | hb1
      all_goals
        go_wp2_with (at_make; refine wpList_make_full _ rfl _ _ 29 rfl w.heap.size 9 i0 (.string ByteArray.empty) 1 Tryd.underlying29 hi hz0 hz1 .i64 .i64 _ _ l.length rfl rfl rfl rfl (by rw [hz2]; omega) (by unfold maxLen; omega) (Nat.le_refl _) ?_; intro w1 hown1 hg1)
        have HB1 := Lib.hid ((Below.refl w.heap.size w).grown hg1 (Nat.le_refl _) (by intro k hk; cases hk))
        clear hg1
        go_wp2_with fail
        go_loopw [4, 22] (fun _ i wr => ∃ k : Nat, ∃ xs : List Value, k ≤ l.length ∧ i = .int .i64 k ∧ wr.ownsRow w.heap.size 9 1 (.slice (some ⟨w.heap.size, 0, none⟩) l.length l.length) l.length xs ∧ Below w.heap.size w wr ∧ Done xs (l.map escS) k) (fun _ i _ => l.length - (intOf i).toNat)
        case atStart => exact ⟨0, _, Nat.zero_le _, rfl, hown1, HB1.out, Done.zero _ _⟩
        case round =>
          obtain ⟨k, xs, hk, rfl, hown, hbr, hdone⟩ := hrel
          have HD := Lib.hid hdone
          clear hdone hown1 hc0
          by_cases hlt : k < l.length
          · obtain ⟨b', o', e, hc⟩ := (hS.below hbr) k hlt
            injection e with e; injection e with e1 e2; subst e1; subst e2
            have hlb := World.block_lt_of_cell? wr _ hc
            have hsz : l[k].size ≤ 300000 := HZ.out _ (List.getElem_mem hlt)
            have HX : Hid (xs.length = l.length) := by show _ = _; have := hown.1; omega
            obtain ⟨u, hu⟩ : ∃ u, xs[k]? = some u := ⟨_, List.getElem?_eq_getElem (by rw [HX.out]; exact hlt)⟩
            have HU := Lib.hid hu
            clear hu
            go_wp2_with fail
            refine (esc_any _ _ (by omega)).mono ?_
            rintro e w2 ⟨rfl, hb2⟩
            have hown2 := own_below hown hb2
            have hcell := (hown2.cellAt k (by omega)).trans HU.out
            have hfr := hown2.frozenAt k
            go_wp2_with fail
            have HB2 : Hid (Below w.heap.size w _) := (bthen hbr hb2).setCell (p := ⟨w.heap.size, k, none⟩) (Nat.le_refl _) (.string (escS l[k]))
            have HS := Lib.hid (hown2.stored k (.string (escS l[k])))
            go_roundw
            case rel => exact ⟨k + 1, _, by omega, by go_num, HS.out.1, HB2.out, HD.out.set (by rw [HX.out]; exact hlt) (fun hl => by simp)⟩
            case measure => simp [intOf]; omega
          · have HK : Hid (k = l.length) := by show _ = _; omega
            have HO : Hid (Strs wr (some ⟨w.heap.size, 0, none⟩) (l.map escS)) := Lib.hid (Strs.own hown (by simp) (fun j hj => HD.out j hj (by rw [HK.out]; simpa using hj)))
            have hj := sjoin_any (l.map escS) 124 (some ⟨w.heap.size, 0, none⟩) l.length wr HO.out (by simpa using hl) (by simp) (escS_map l HZ.out)
            rw [List.length_map] at hj
            go_wp2_with fail
            refine hj.mono ?_
            rintro e w3 ⟨rfl, hb3⟩
            go_wp2_with fail
            go_ret
            exact ⟨ret_str HJ.out.symm, bthen hbr hb3⟩
end Go.Proofs.YtnkblimmlkidcaaDoor
