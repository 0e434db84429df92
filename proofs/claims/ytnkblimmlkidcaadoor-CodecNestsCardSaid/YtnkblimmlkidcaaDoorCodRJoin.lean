/- identityref02.Join computes joinS. -/
import Derived.Test.YtnkblimmlkidcaaDoorCodJoin
namespace Go.Proofs.YtnkblimmlkidcaaDoor
open Go.RowKit

theorem esc_snoc (l : List ByteArray) (k : Nat) (h : k < l.length) : strVs ((l.take k).map escS) ++ [strV (escS l[k])] = strVs ((l.take (k + 1)).map escS) := by
  rw [strVs_snoc, List.take_succ_eq_append_getElem h, List.map_append]; rfl

/-- An own row of strings, read as a list. -/
theorem own_strs {w : World} {base e n : Nat} {v : Value} {xs : List Value} {l : List ByteArray} (h : w.ownsRow base e 1 v n xs) (hn : l.length = n)
    (hx : ∀ j, (h : j < l.length) → xs[j]? = some (.string l[j])) : ∃ A cap, v = .slice A l.length cap ∧ Strs w A l ∧ l.length ≤ cap := by
  rcases h.2 with ⟨rfl, rfl⟩ | ⟨g, cap, cur, rfl, hg, _, hnc, _⟩
  · have : l = [] := List.eq_nil_of_length_eq_zero hn
    subst this
    exact ⟨none, 0, rfl, Strs.nil_ _ _, Nat.le_refl _⟩
  · subst hn
    exact ⟨_, cap, rfl, Strs.own h rfl hx, hnc⟩

set_option maxHeartbeats 4000000 in
set_option maxRecDepth 100000 in
theorem rjoin_any (l : List ByteArray) (A : Option Addr) (cap : Nat) (w : World) (hS : Strs w A l) (hl : l.length ≤ 1000000) (hz : ∀ s ∈ l, s.size ≤ 300000) :
    Calls Tryd.prog 20 #[.slice A l.length cap] w fun e w' => e = .returned (.string (joinS l)) ∧ Below w.heap.size w w' := by
  have HZ := Lib.hid hz
  clear hz
  obtain ⟨i0, hi, hz0, hz1, hz2⟩ := info_parts Tryd.info_s
  go_enter Tryd.func20, Tryd.ntmps20
  by_cases h0 : l.length = 0
  · have he : l = [] := List.eq_nil_of_length_eq_zero h0
    subst he
    have HJ := Lib.hid joinS_nil
    go_wp2_with fail
    go_ret
    exact ⟨ret_str HJ.out.symm, Below.refl _ _⟩
  · have hlt0 : 0 < l.length := by omega
    have hb0 : ((l.length : Int) == 0) = false := by rw [beq_eq_false_iff_ne]; omega
    obtain ⟨b, o, rfl, hcell⟩ := hS 0 hlt0
    have hc0 : w.cell? ⟨b, o, none⟩ = some (.string l[0]) := by simpa using hcell
    have hcs : (l.length = 1 ∧ l[0] = ⟨#[45]⟩) ∨ (l.length = 1 ∧ l[0] ≠ ⟨#[45]⟩) ∨ l.length ≠ 1 := by
      by_cases h1 : l.length = 1
      · by_cases h2 : l[0] = ⟨#[45]⟩
        · exact .inl ⟨h1, h2⟩
        · exact .inr (.inl ⟨h1, h2⟩)
      · exact .inr (.inr h1)
    clear hcell h0
    rcases hcs with ⟨h1, h2⟩ | hcs
    · have HJ : Hid (joinS l = ⟨#[37, 50, 68]⟩) := by
        show _ = _
        rw [one_of h1 hlt0, h2]; exact joinS_dash
      have hb1 : ((l.length : Int) == 1) = true := by rw [beq_iff_eq]; omega
      rw [h2] at hc0
      clear h1 h2
      go_wp2_with fail
      go_ret
      exact ⟨ret_str HJ.out.symm, Below.refl _ _⟩
    · have HJ : Hid (joinS l = joinC 124 (l.map escS)) := Lib.hid (joinS_else l (by intro e; rw [e] at hlt0; exact absurd hlt0 (by simp)) (by
        intro e
        rcases hcs with ⟨_, h2⟩ | h1
        · exact h2 (by simp [e])
        · exact h1 (by simp [e])))
      obtain ⟨x0, hx0⟩ : ∃ x0, l[0] = x0 := ⟨_, rfl⟩
      rw [hx0] at hcs hc0
      have HX0 := Lib.hid hx0
      clear hx0
      have hcs2 : (((l.length : Int) == 1) = true ∧ (x0.toList == [45]) = false) ∨ ((l.length : Int) == 1) = false := by
        rcases hcs with ⟨h1, h2⟩ | h1
        · exact .inl ⟨by rw [beq_iff_eq]; omega, dash_ne' h2⟩
        · exact .inr (by rw [beq_eq_false_iff_ne]; omega)
      clear hcs
      rcases hcs2 with ⟨hb1, hsd⟩ | hb1
      all_goals
        go_wp2_with fail
        go_loopw [3, 4] (fun v i wr => ∃ k : Nat, k ≤ l.length ∧ i = .int .i64 k ∧ wr.ownsRow w.heap.size 9 1 v k (strVs ((l.take k).map escS)) ∧ Below w.heap.size w wr) (fun _ i _ => l.length - (intOf i).toNat)
        case atStart => exact ⟨0, Nat.zero_le _, rfl, World.ownsRow_nil _ _ _ _, Below.refl _ _⟩
        case round =>
          obtain ⟨k, hk, rfl, hown, hbr⟩ := hrel
          clear hc0
          have hgt := hbr.size
          by_cases hlt : k < l.length
          · obtain ⟨b', o', e, hc⟩ := (hS.below hbr) k hlt
            injection e with e; injection e with e1 e2; subst e1; subst e2
            have hlb := World.block_lt_of_cell? wr _ hc
            have hsz : l[k].size ≤ 300000 := HZ.out _ (List.getElem_mem hlt)
            have HL := Lib.hid (esc_snoc l k hlt)
            go_wp2_with fail
            refine (resc_any _ _ (by omega)).mono ?_
            rintro e w2 ⟨rfl, hb2⟩
            have hown2 := own_below hown hb2
            have hbr2 := bthen hbr hb2
            go_wp2_with (at_builtin; refine wpList_append_own _ rfl _ _ 29 rfl w.heap.size 9 i0 (.string ByteArray.empty) 1 16 Tryd.underlying29 hi hz0 hz1 hz2 rfl (by decide) _ _ _ rfl (hown2.alloc _) ⟨w2.heap.size, 0, none⟩ 1 1 [strV (escS l[k])] rfl rfl (cell_one_new _ _ _) (by intro u hu; simp at hu; subst hu; rfl) (by unfold maxLen; omega) (by omega) (by have := hbr2.size; simp; omega) ?_; intro v' w1 hown1 hg1 _)
            have HB : Hid (Below w.heap.size w w1) := Lib.hid ((hbr2.alloc hbr2.size _).grown hg1 (by have := hbr2.size; simp; omega) (fun q hq => (hown2.lt q hq).1))
            have HO : Hid (w1.ownsRow w.heap.size 9 1 v' (k + 1) (strVs ((l.take (k + 1)).map escS))) := by
              show World.ownsRow _ _ _ _ _ _ _
              rw [← HL.out]; exact hown1
            clear hown1 hg1
            go_wp2_with fail
            go_roundw
            case rel => exact ⟨k + 1, by omega, by go_num, HO.out, HB.out⟩
            case measure => simp [intOf]; omega
          · have hK : k = l.length := by omega
            obtain ⟨A2, c2, rfl, hS2, _⟩ := own_strs (l := l.map escS) hown (by simp [hK]) (fun j hj => by
              rw [hK, List.take_of_length_le (Nat.le_refl _)]
              exact strVs_at _ j hj)
            have hj := between_any (l.map escS) 124 A2 c2 wr hS2 (by simpa using hl) (escS_map l HZ.out)
            rw [List.length_map] at hj
            rw [List.length_map]
            clear hS2
            go_wp2_with fail
            refine hj.mono ?_
            rintro e w3 ⟨rfl, hb3⟩
            go_wp2_with fail
            go_ret
            exact ⟨ret_str HJ.out.symm, bthen hbr hb3⟩
end Go.Proofs.YtnkblimmlkidcaaDoor
