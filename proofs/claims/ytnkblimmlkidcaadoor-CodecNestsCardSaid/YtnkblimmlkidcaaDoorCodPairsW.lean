/- codec.Pairs computes pairsS.  -/
import Derived.Test.YtnkblimmlkidcaaDoorCodPairP
import Derived.Deep.RegionHeld3
import Derived.Deep.AppendLies
import Derived.Test.YtnkblimmlkidcaaDoorCodRJoin
namespace Go.Proofs.YtnkblimmlkidcaaDoor
open Go.RowKit

theorem pair_snoc (l : List (ByteArray × ByteArray)) (k : Nat) (h : k < l.length) : strVs ((l.take k).map pairS) ++ [strV (pairS l[k])] = strVs ((l.take (k + 1)).map pairS) := by
  rw [strVs_snoc, List.take_succ_eq_append_getElem h, List.map_append]; rfl

set_option maxHeartbeats 4000000 in
set_option maxRecDepth 100000 in
theorem cpairs_any (l : List (ByteArray × ByteArray)) (A : Option Addr) (cap : Nat) (w : World) (hS : PairsAt w A l) (hl : l.length ≤ 1000000) (hz : ∀ p ∈ l, p.1.size ≤ 150000 ∧ p.2.size ≤ 150000) :
    Calls Tryd.prog 24 #[.slice A l.length cap] w fun e w' => e = .returned (.string (pairsS l)) ∧ Below w.heap.size w w' := by
  have HZ := Lib.hid hz
  clear hz
  obtain ⟨i0, hi, hz0, hz1, hz2⟩ := info_parts Tryd.info_s
  go_enter Tryd.func24, Tryd.ntmps24
  go_wp2_with fail
  go_loopw [3, 5, 8] (fun v _ i wr => ∃ k : Nat, k ≤ l.length ∧ i = .int .i64 k ∧ wr.ownsRow w.heap.size 9 1 v k (strVs ((l.take k).map pairS)) ∧ Below w.heap.size w wr) (fun _ _ i _ => l.length - (intOf i).toNat)
  case atStart => exact ⟨0, Nat.zero_le _, rfl, World.ownsRow_nil _ _ _ _, Below.refl _ _⟩
  case round =>
    obtain ⟨k, hk, rfl, hown, hbr⟩ := hrel
    have hgt := hbr.size
    by_cases hlt : k < l.length
    · obtain ⟨b, o, rfl, hc1, hc2⟩ := (hS.below hbr) k hlt
      have hlb := World.block_lt_of_cell? wr _ hc1
      obtain ⟨z1, z2⟩ := HZ.out _ (List.getElem_mem hlt)
      have HL := Lib.hid (pair_snoc l k hlt)
      generalize l[k] = p at *
      obtain ⟨x, y⟩ := p
      go_wp2_with fail
      have hw1 : Below w.heap.size w (wr.alloc (.cells #[.string x, .string y] 37)) := hbr.alloc hgt _
      have c1 : (wr.alloc (.cells #[.string x, .string y] 37)).cell? ⟨wr.heap.size, 0, none⟩ = some (.string x) := by simp [go_sem]
      have c2 : (wr.alloc (.cells #[.string x, .string y] 37)).cell? ⟨wr.heap.size, 1, none⟩ = some (.string y) := by simp [go_sem]
      have how := hown.alloc (.cells #[.string x, .string y] 37)
      have hbk : wr.heap.size < (wr.alloc (.cells #[.string x, .string y] 37)).heap.size := by simp
      have hwz : w.heap.size ≤ wr.heap.size := hgt
      generalize wr.alloc (.cells #[.string x, .string y] 37) = wa at hw1 c1 c2 how hbk ⊢
      have ex := escS_size x
      have ey := escS_size y
      have HPS : Hid (escS x ++ ⟨#[61]⟩ ++ escS y = pairS (x, y)) := Lib.hid rfl
      have z1' : x.size ≤ 150000 := z1
      have z2' : y.size ≤ 150000 := z2
      have s1 : ¬ 9223372036854775807 < (escS x).size + 1 := by omega
      have s2 : ¬ 9223372036854775807 < (escS x).size + 1 + (escS y).size := by omega
      have hag : some wr.heap.size ≠ Value.ownBlock _ := fun h => absurd ((hown.lt wr.heap.size h.symm).2) (by omega)
      go_region_held3 (fun w' => w'.cell? ⟨wr.heap.size, 0, none⟩ = some (.string x) ∧ w'.cell? ⟨wr.heap.size, 1, none⟩ = some (.string y))
        (first
          | go_keep
          | (exact ⟨((hg4.cell_far ⟨wr.heap.size, 0, none⟩ (by have h2 := hb2.size; have h3 := hb3.size; have h1 : wa.drew.heap.size = wa.heap.size := rfl; simp; omega) hag).trans ((((Below.refl w3.heap.size w3).alloc (Nat.le_refl _) _).cell (p := ⟨wr.heap.size, 0, none⟩) (Nat.lt_of_lt_of_le (Nat.lt_of_lt_of_le hbk hb2.size) hb3.size)).trans ((hb3.cell (p := ⟨wr.heap.size, 0, none⟩) (Nat.lt_of_lt_of_le hbk hb2.size)).trans ((hb2.cell (p := ⟨wr.heap.size, 0, none⟩) hbk).trans c1)))), ((hg4.cell_far ⟨wr.heap.size, 1, none⟩ (by have h2 := hb2.size; have h3 := hb3.size; have h1 : wa.drew.heap.size = wa.heap.size := rfl; simp; omega) hag).trans ((((Below.refl w3.heap.size w3).alloc (Nat.le_refl _) _).cell (p := ⟨wr.heap.size, 1, none⟩) (Nat.lt_of_lt_of_le (Nat.lt_of_lt_of_le hbk hb2.size) hb3.size)).trans ((hb3.cell (p := ⟨wr.heap.size, 1, none⟩) (Nat.lt_of_lt_of_le hbk hb2.size)).trans ((hb2.cell (p := ⟨wr.heap.size, 1, none⟩) hbk).trans c2))))⟩)
          | (exact ⟨(hb3.cell (p := ⟨wr.heap.size, 0, none⟩) (Nat.lt_of_lt_of_le hbk hb2.size)).trans ((hb2.cell (p := ⟨wr.heap.size, 0, none⟩) hbk).trans c1), (hb3.cell (p := ⟨wr.heap.size, 1, none⟩) (Nat.lt_of_lt_of_le hbk hb2.size)).trans ((hb2.cell (p := ⟨wr.heap.size, 1, none⟩) hbk).trans c2)⟩)
          | (exact ⟨(hb2.cell (p := ⟨wr.heap.size, 0, none⟩) hbk).trans c1, (hb2.cell (p := ⟨wr.heap.size, 1, none⟩) hbk).trans c2⟩))
        (first
          | (go_at_call_of 14 x; refine (esc_any x _ (by omega)).mono ?_; rintro e w2 ⟨rfl, hb2⟩)
          | (go_at_call_of 14 y; refine (esc_any y _ (by omega)).mono ?_; rintro e w3 ⟨rfl, hb3⟩)
          | (refine step_append_lies _ (by rfl) _ _ _ (by rfl) w.heap.size 9 i0 _ 1 16 Tryd.underlying29 hi hz0 hz1 hz2 rfl (by omega) _ k (strVs ((l.take k).map pairS)) (by rfl) ?_ ⟨w3.heap.size, 0, none⟩ 1 1 [strV (escS x ++ ⟨#[61]⟩ ++ escS y)] (by rfl) (by rfl) ?_ ?_ (by omega) (by unfold maxLen; omega) (by omega) ?_ (w3.heap.size + 1) ?_ ?_; exact (own_below (own_below how.drew hb2) hb3).alloc _; exact cell_one_new _ _ _; (intro u hu; simp at hu; subst hu; rfl); (have h2 := hb2.size; have h3 := hb3.size; have h1 : wa.drew.heap.size = wa.heap.size := rfl; simp; omega); (simp); (intro gg cap2 w4 ho4 hg4 hat hlt4)))
      have HB : Hid (Below w.heap.size w w4) := Lib.hid ((((hw1.drew.trans (hb2.mono hw1.size)).trans (hb3.mono (Nat.le_trans hw1.size hb2.size))).alloc (Nat.le_trans hw1.size (Nat.le_trans hb2.size hb3.size)) _).grown hg4 (by have h2 := hb2.size; have h3 := hb3.size; have h1 : wa.drew.heap.size = wa.heap.size := rfl; simp; omega) (fun q hq => (hown.lt q hq).1))
      have HO : Hid (w4.ownsRow w.heap.size 9 1 (.slice (some ⟨gg, 0, none⟩) (k + 1) cap2) (k + 1) (strVs ((l.take (k + 1)).map pairS))) := by
        show World.ownsRow _ _ _ _ _ _ _
        rw [← HL.out]; exact ho4
      clear ho4 hg4
      go_wp2_with fail
      go_roundw
      case rel => exact ⟨k + 1, hlt, by go_num, HO.out, HB.out⟩
      case measure => simp [intOf]; omega
    · have hK : k = l.length := by omega
      have HJ := Lib.hid (pairsS_eq l)
      obtain ⟨A2, cc, rfl, hS2, hcc⟩ := own_strs (l := l.map pairS) hown (by simp [hK]) (fun j hj => by
        rw [hK, List.take_of_length_le (Nat.le_refl _)]
        exact strVs_at _ j hj)
      have hj := sjoin_any (l.map pairS) 124 A2 cc wr hS2 (by simpa using hl) hcc (fun s hs => by
        rw [List.mem_map] at hs
        obtain ⟨p, hp, rfl⟩ := hs
        exact pairS_size p (HZ.out p hp).1 (HZ.out p hp).2)
      rw [List.length_map] at hj
      rw [List.length_map]
      clear hS2
      go_wp2_with fail
      refine hj.mono ?_
      rintro e w3 ⟨rfl, hb3⟩
      go_wp2_with fail
      go_ret
      exact ⟨ret_str HJ.out.symm, bthen hbr hb3⟩
end Go.Proofs.YtnkblimmlkidcaaDoor
