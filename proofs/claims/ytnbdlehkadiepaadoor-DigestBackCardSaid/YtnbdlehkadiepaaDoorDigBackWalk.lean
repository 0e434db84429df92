import Derived.Test.YtnbdlehkadiepaaDoorDigBack
import Derived.Test.YtnbdlehkadiepaaDoorDigAwake
import Derived.Deep.RegionWith
import Derived.Deep.DeepCutAuto
namespace Go.Proofs.YtnbdlehkadiepaaDoor
open Go.RowKit
/-- string([]byte{a}): the conversion of a block of one byte. -/
theorem conv1 (w : World) (g : Nat) (a : UInt8) (h : w.cell? ⟨g, 0, none⟩ = some (.int .u8 (a.toNat : Int))) : (convert 43 9 (.slice (some ⟨g, 0, none⟩) 1 1)).run Tryd.prog w = .ok (.string ⟨#[a]⟩) w := by
  refine run_convert_bytes_back (P := Tryd.prog) w _ _ 5 ⟨g, 0, none⟩ 1 [a] Tryd.underlying43 Tryd.underlying5 Tryd.underlying9 ?_
  intro j hj
  have : j = 0 := by simpa using hj
  subst this
  rw [addr_add]
  exact h

set_option maxRecDepth 100000 in
set_option maxHeartbeats 4000000 in
theorem core (n : Int) (s p q : ByteArray) (a b : UInt8) (w : World) (hd : DigOk w) (hp : PowOk w) (h0 : 0 ≤ n) (h1 : n < 18446744073709551616) (hs : s.size ≤ 300) (hpz : p.size ≤ 300) (hqz : q.size ≤ 300) :
    Calls Tryd.prog 8 #[.int .u64 n, .string s, .string p, .string q, .int .u8 (a.toNat : Int), .int .u8 (b.toNat : Int)] w fun e w' => e = .returned (.bool true) ∧ Below w.heap.size w w' := by
  obtain ⟨r1, r2⟩ := readhex_hex n h0 h1
  have H1 := Lib.hid h1
  have R1 := Lib.hid r1
  have R2 := Lib.hid r2
  clear h1 r1 r2
  have hh : (hexS n).size ≤ 9223372036854775807 := by rw [hexS_size]; decide
  have HH := Lib.hid hh
  clear hh
  go_enter Tryd.func8, Tryd.ntmps8
  go_wp2_with fail
  refine (hex_any _ _ hd).mono ?_
  rintro e w1 ⟨rfl, hb1⟩
  have B1 := Lib.hid hb1
  clear hb1
  go_wp2_with fail
  refine (readhex_any _ _ (hd.below B1.out) HH.out).mono ?_
  rintro e w2 ⟨rfl, rfl⟩
  rw [R1.out, R2.out]
  go_wp2_with fail
  refine (readhex_any _ _ (hd.below B1.out) (by omega)).mono ?_
  rintro e w2 ⟨rfl, rfl⟩
  have cv1 := fun (wx : World) (h : wx.cell? ⟨w1.heap.size, 0, none⟩ = some (.int .u8 (a.toNat : Int))) => conv1 wx w1.heap.size a h
  have cv2 := fun (wx : World) (h : wx.cell? ⟨w1.heap.size + 1, 0, none⟩ = some (.int .u8 (a.toNat : Int))) => conv1 wx (w1.heap.size + 1) a h
  have cv3 := fun (wx : World) (h : wx.cell? ⟨w1.heap.size, 0, none⟩ = some (.int .u8 (b.toNat : Int))) => conv1 wx w1.heap.size b h
  have cv4 := fun (wx : World) (h : wx.cell? ⟨w1.heap.size + 1, 0, none⟩ = some (.int .u8 (b.toNat : Int))) => conv1 wx (w1.heap.size + 1) b h
  have s1 : ¬ 9223372036854775807 < p.size + 1 := by omega
  have s2 : ¬ 9223372036854775807 < p.size + 1 + q.size := by omega
  have z1 : Hid ((p ++ ⟨#[a]⟩ ++ q).size ≤ 9223372036854775807) := by
    show _ ≤ _
    simp only [ByteArray.size_append]
    have : (⟨#[a]⟩ : ByteArray).size = 1 := rfl
    omega
  have z2 : Hid ((p ++ ⟨#[b]⟩ ++ q).size ≤ 9223372036854775807) := by
    show _ ≤ _
    simp only [ByteArray.size_append]
    have : (⟨#[b]⟩ : ByteArray).size = 1 := rfl
    omega
  have hz1 := World.block_lt_of_cell? w1 _ ((hd.below B1.out).cells.2 0 (by decide))
  have hz0 := (hd.below B1.out).cells.2 0 (by decide)
  have hgt := B1.out.size
  clear cv1 cv2 cv3 cv4
  go_upto_region 5 with fail
  go_cut [17, 18] (fun x y wx => x = .int .u64 (sumS (p ++ ⟨#[a]⟩ ++ q)) ∧ y = .int .u64 (sumS (p ++ ⟨#[b]⟩ ++ q)) ∧ Below w.heap.size w wx)
  case first =>
    have cv1 := fun (wx : World) (h : wx.cell? ⟨w1.heap.size, 0, none⟩ = some (.int .u8 (a.toNat : Int))) => conv1 wx w1.heap.size a h
    have cv2 := fun (wx : World) (h : wx.cell? ⟨w1.heap.size + 1, 0, none⟩ = some (.int .u8 (a.toNat : Int))) => conv1 wx (w1.heap.size + 1) a h
    have cv3 := fun (wx : World) (h : wx.cell? ⟨w1.heap.size, 0, none⟩ = some (.int .u8 (b.toNat : Int))) => conv1 wx w1.heap.size b h
    have cv4 := fun (wx : World) (h : wx.cell? ⟨w1.heap.size + 1, 0, none⟩ = some (.int .u8 (b.toNat : Int))) => conv1 wx (w1.heap.size + 1) b h
    go_region_with (first
      | (go_at_call 12; (with_reducible refine (sum_any (p ++ ⟨#[a]⟩ ++ q) _ z1.out).mono ?_); rintro e w' ⟨rfl, rfl⟩)
      | (go_at_call 12; (with_reducible refine (sum_any (p ++ ⟨#[b]⟩ ++ q) _ z2.out).mono ?_); rintro e w' ⟨rfl, rfl⟩))
    all_goals (go_wp2_with fail; go_meet; exact ⟨rfl, rfl, by repeat (first | exact B1.out | apply Below.drew | (refine Below.alloc ?_ (by first | exact hgt | (simp; omega)) _))⟩)
  case rest =>
    obtain ⟨rfl, rfl, hb2⟩ := hcut
    have B2 := Lib.hid hb2
    clear hb2
    rcases readhex_cases s with he | ⟨he, hn0⟩
    · have HS := Lib.hid (hex_readhex s he)
      by_cases hab : a = b
      · subst hab
        go_wp2_with fail
        refine (hex_any _ _ (hd.below B2.out)).mono ?_
        rintro e w3 ⟨rfl, hb3⟩
        rw [HS.out]
        have B3 := Lib.hid (bthen B2.out hb3)
        clear hb3
        go_wp2_with fail
        refine (awake_any _ (hd.below B3.out) (hp.below B3.out)).mono ?_
        rintro e w4 ⟨rfl, hb4⟩
        have B4 := Lib.hid (bthen B3.out hb4)
        clear hb4
        go_wp2_with fail
        go_ret
        exact ⟨rfl, B4.out⟩
      · have q1 : (sumS (p ++ ⟨#[a]⟩ ++ q) == sumS (p ++ ⟨#[b]⟩ ++ q)) = false := by
          rw [beq_eq_false_iff_ne]; exact fun e => hab ((sumS_one p q a b).1 e)
        have q2 : ((a.toNat : Int) == (b.toNat : Int)) = false := by
          rw [beq_eq_false_iff_ne]; exact fun e => hab (UInt8.toNat_inj.1 (by omega))
        clear hab
        go_wp2_with fail
        refine (hex_any _ _ (hd.below B2.out)).mono ?_
        rintro e w3 ⟨rfl, hb3⟩
        rw [HS.out]
        have B3 := Lib.hid (bthen B2.out hb3)
        clear hb3
        go_wp2_with fail
        refine (awake_any _ (hd.below B3.out) (hp.below B3.out)).mono ?_
        rintro e w4 ⟨rfl, hb4⟩
        have B4 := Lib.hid (bthen B3.out hb4)
        clear hb4
        go_wp2_with fail
        go_ret
        exact ⟨rfl, B4.out⟩
    · by_cases hab : a = b
      · subst hab
        go_wp2_with fail
        refine (awake_any _ (hd.below B2.out) (hp.below B2.out)).mono ?_
        rintro e w4 ⟨rfl, hb4⟩
        have B4 := Lib.hid (bthen B2.out hb4)
        clear hb4
        go_wp2_with fail
        go_ret
        exact ⟨rfl, B4.out⟩
      · have q1 : (sumS (p ++ ⟨#[a]⟩ ++ q) == sumS (p ++ ⟨#[b]⟩ ++ q)) = false := by
          rw [beq_eq_false_iff_ne]; exact fun e => hab ((sumS_one p q a b).1 e)
        have q2 : ((a.toNat : Int) == (b.toNat : Int)) = false := by
          rw [beq_eq_false_iff_ne]; exact fun e => hab (UInt8.toNat_inj.1 (by omega))
        clear hab
        go_wp2_with fail
        refine (awake_any _ (hd.below B2.out) (hp.below B2.out)).mono ?_
        rintro e w4 ⟨rfl, hb4⟩
        have B4 := Lib.hid (bthen B2.out hb4)
        clear hb4
        go_wp2_with fail
        go_ret
        exact ⟨rfl, B4.out⟩
end Go.Proofs.YtnbdlehkadiepaaDoor
