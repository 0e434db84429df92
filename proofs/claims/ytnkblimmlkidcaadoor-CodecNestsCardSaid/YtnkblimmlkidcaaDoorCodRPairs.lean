/- identityref02.Pairs computes pairsS. -/
import Derived.Test.YtnkblimmlkidcaaDoorCodPairsW
namespace Go.Proofs.YtnkblimmlkidcaaDoor
open Go.RowKit

set_option maxHeartbeats 4000000 in
set_option maxRecDepth 100000 in
theorem rpairs_any (l : List (ByteArray × ByteArray)) (A : Option Addr) (cap : Nat) (w : World) (hS : PairsAt w A l) (hl : l.length ≤ 1000000) (hz : ∀ p ∈ l, p.1.size ≤ 150000 ∧ p.2.size ≤ 150000) :
    Calls Tryd.prog 25 #[.slice A l.length cap] w fun e w' => e = .returned (.string (pairsS l)) ∧ Below w.heap.size w w' := by
  have HZ := Lib.hid hz
  clear hz
  obtain ⟨i0, hi, hz0, hz1, hz2⟩ := info_parts Tryd.info_s
  go_enter Tryd.func25, Tryd.ntmps25
  go_wp2_with fail
  go_loopw [3, 4] (fun v i wr => ∃ k : Nat, k ≤ l.length ∧ i = .int .i64 k ∧ wr.ownsRow w.heap.size 9 1 v k (strVs ((l.take k).map pairS)) ∧ Below w.heap.size w wr) (fun _ i _ => l.length - (intOf i).toNat)
  case atStart => exact ⟨0, Nat.zero_le _, rfl, World.ownsRow_nil _ _ _ _, Below.refl _ _⟩
  case round =>
    obtain ⟨k, hk, rfl, hown, hbr⟩ := hrel
    have hwz := hbr.size
    by_cases hlt : k < l.length
    · obtain ⟨b, o, rfl, q1, q2⟩ := hS k hlt
      have hbw := World.block_lt_of_cell? w _ q1
      have c1 := ((bcell hbr).1 b (o + k * 2) hbw).trans q1
      have c2 := ((bcell hbr).1 b (o + k * 2 + 1) hbw).trans q2
      clear q1 q2
      have hbk : b < wr.heap.size := Nat.lt_of_lt_of_le hbw hwz
      obtain ⟨z1, z2⟩ := HZ.out _ (List.getElem_mem hlt)
      have HL := Lib.hid (pair_snoc l k hlt)
      generalize l[k] = p at *
      obtain ⟨x, y⟩ := p
      have ex := escS_size x
      have ey := escS_size y
      have z1' : x.size ≤ 150000 := z1
      have z2' : y.size ≤ 150000 := z2
      have s1 : ¬ 9223372036854775807 < (escS x).size + 1 := by omega
      have s2 : ¬ 9223372036854775807 < (escS x).size + 1 + (escS y).size := by omega
      have i1 : (0 : Int) ≤ (k : Int) := by omega
      have i2 : (k : Int) < (l.length : Int) := by omega
      go_wp2_with fail
      have hag : some b ≠ Value.ownBlock _ := fun h => absurd ((hown.lt b h.symm).1) (by omega)
      go_region_held3 (fun w' => w'.cell? ⟨b, o + k * 2, none⟩ = some (.string x) ∧ w'.cell? ⟨b, o + k * 2 + 1, none⟩ = some (.string y))
        (first
          | go_keep
          | (exact ⟨((hg4.cell_far ⟨b, o + k * 2, none⟩ (by have h2 := hb2.size; have h3 := hb3.size; have h1 : wr.drew.heap.size = wr.heap.size := rfl; simp; omega) hag).trans ((((Below.refl w3.heap.size w3).alloc (Nat.le_refl _) _).cell (p := ⟨b, o + k * 2, none⟩) (Nat.lt_of_lt_of_le (Nat.lt_of_lt_of_le hbk hb2.size) hb3.size)).trans ((hb3.cell (p := ⟨b, o + k * 2, none⟩) (Nat.lt_of_lt_of_le hbk hb2.size)).trans ((hb2.cell (p := ⟨b, o + k * 2, none⟩) hbk).trans c1)))), ((hg4.cell_far ⟨b, o + k * 2 + 1, none⟩ (by have h2 := hb2.size; have h3 := hb3.size; have h1 : wr.drew.heap.size = wr.heap.size := rfl; simp; omega) hag).trans ((((Below.refl w3.heap.size w3).alloc (Nat.le_refl _) _).cell (p := ⟨b, o + k * 2 + 1, none⟩) (Nat.lt_of_lt_of_le (Nat.lt_of_lt_of_le hbk hb2.size) hb3.size)).trans ((hb3.cell (p := ⟨b, o + k * 2 + 1, none⟩) (Nat.lt_of_lt_of_le hbk hb2.size)).trans ((hb2.cell (p := ⟨b, o + k * 2 + 1, none⟩) hbk).trans c2))))⟩)
          | (exact ⟨(hb3.cell (p := ⟨b, o + k * 2, none⟩) (Nat.lt_of_lt_of_le hbk hb2.size)).trans ((hb2.cell (p := ⟨b, o + k * 2, none⟩) hbk).trans c1), (hb3.cell (p := ⟨b, o + k * 2 + 1, none⟩) (Nat.lt_of_lt_of_le hbk hb2.size)).trans ((hb2.cell (p := ⟨b, o + k * 2 + 1, none⟩) hbk).trans c2)⟩)
          | (exact ⟨(hb2.cell (p := ⟨b, o + k * 2, none⟩) hbk).trans c1, (hb2.cell (p := ⟨b, o + k * 2 + 1, none⟩) hbk).trans c2⟩))
        (first
          | (go_at_call_of 15 x; refine (resc_any x _ (by omega)).mono ?_; rintro e w2 ⟨rfl, hb2⟩)
          | (go_at_call_of 15 y; refine (resc_any y _ (by omega)).mono ?_; rintro e w3 ⟨rfl, hb3⟩)
          | (refine step_append_lies _ (by rfl) _ _ _ (by rfl) w.heap.size 9 i0 _ 1 16 Tryd.underlying29 hi hz0 hz1 hz2 rfl (by omega) _ k (strVs ((l.take k).map pairS)) (by rfl) ?_ ⟨w3.heap.size, 0, none⟩ 1 1 [strV (escS x ++ ⟨#[61]⟩ ++ escS y)] (by rfl) (by rfl) ?_ ?_ (by omega) (by unfold maxLen; omega) (by omega) ?_ (w3.heap.size + 1) ?_ ?_; exact (own_below (own_below hown.drew hb2) hb3).alloc _; exact cell_one_new _ _ _; (intro u hu; simp at hu; subst hu; rfl); (have h2 := hb2.size; have h3 := hb3.size; have h1 : wr.drew.heap.size = wr.heap.size := rfl; simp; omega); (simp); (intro gg cap2 w4 ho4 hg4 hat hlt4)))
      have HB : Hid (Below w.heap.size w w4) := Lib.hid ((((hbr.drew.trans (hb2.mono hbr.size)).trans (hb3.mono (Nat.le_trans hbr.size hb2.size))).alloc (Nat.le_trans hbr.size (Nat.le_trans hb2.size hb3.size)) _).grown hg4 (by have h2 := hb2.size; have h3 := hb3.size; have h1 : wr.drew.heap.size = wr.heap.size := rfl; simp; omega) (fun q hq => (hown.lt q hq).1))
      have HO : Hid (w4.ownsRow w.heap.size 9 1 (.slice (some ⟨gg, 0, none⟩) (k + 1) cap2) (k + 1) (strVs ((l.take (k + 1)).map pairS))) := by
        show World.ownsRow _ _ _ _ _ _ _
        rw [← HL.out]; exact ho4
      clear ho4 hg4
      go_wp2_with fail
      go_roundw
      case rel => exact ⟨k + 1, hlt, by go_num, HO.out, HB.out⟩
      case measure => simp [intOf]; omega
    · have hK : k = l.length := by omega
      have HJ := Lib.hid (pairsS_eq l)
      obtain ⟨A2, cc, rfl, hS2, hcc⟩ := own_strs (l := l.map pairS) hown (by simp [hK]) (fun j hj => by
        rw [hK, List.take_of_length_le (Nat.le_refl _)]
        exact strVs_at _ j hj)
      have hj := between_any (l.map pairS) 124 A2 cc wr hS2 (by simpa using hl) (fun s hs => by
        rw [List.mem_map] at hs
        obtain ⟨p, hp, rfl⟩ := hs
        exact pairS_size p (HZ.out p hp).1 (HZ.out p hp).2)
      rw [List.length_map] at hj
      rw [List.length_map]
      clear hS2
      go_wp2_with fail
      refine hj.mono ?_
      rintro e w3 ⟨rfl, hb3⟩
      go_wp2_with fail
      go_ret
      exact ⟨ret_str HJ.out.symm, bthen hbr hb3⟩
end Go.Proofs.YtnkblimmlkidcaaDoor
