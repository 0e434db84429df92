/- identitylaw03.awake returns true. -/
import Derived.Test.YtnbdlehkadiepaaDoorDigAwake0
namespace Go.Proofs.YtnbdlehkadiepaaDoor
open Go.RowKit

set_option maxHeartbeats 4000000 in
theorem awake_any (w : World) (hd : DigOk w) (hp : PowOk w) :
    Calls Tryd.prog 11 #[] w fun e w' => e = .returned (.bool true) ∧ Below w.heap.size w w' := by
  have e1 := aw_hex
  have e2 := aw_readN
  have e3 := aw_readE
  have e4 := aw_readE2
  have e5 := aw_sum
  go_enter Tryd.func11, Tryd.ntmps11
  go_wp2_with (first
    | (go_at_call 18; refine (readhex_any _ _ hd (by decide)).mono ?_; rintro e w' ⟨rfl, rfl⟩)
    | (go_at_call 14; refine (hex_any _ _ hd).mono ?_; rintro e wa ⟨rfl, hba⟩)
    | (go_at_call 12; refine (sum_any _ _ (by decide)).mono ?_; rintro e w' ⟨rfl, rfl⟩))
  have HA := Lib.hid hba
  clear hba e1 e2 e3 e4 e5
  refine (text_any _ _ (hd.below HA.out) (by decide)).mono ?_
  rintro e w1 ⟨rfl, hb1⟩
  have H1 := Lib.hid (bthen HA.out hb1)
  clear hb1
  go_wp2_with fail
  refine (text_any _ _ (hd.below H1.out) (by decide)).mono ?_
  rintro e w2 ⟨rfl, hb2⟩
  have H2 := Lib.hid (bthen H1.out hb2)
  clear hb2
  go_wp2_with fail
  refine (text_any _ _ (hd.below H2.out) (by decide)).mono ?_
  rintro e w3 ⟨rfl, hb3⟩
  have H3 := Lib.hid (bthen H2.out hb3)
  clear hb3
  go_wp2_with fail
  have H4 := Lib.hid (H3.out.alloc H3.out.size (.cells #[.string ⟨#[97]⟩, .string ⟨#[98]⟩, .string ⟨#[99]⟩] 9))
  have S4 := Lib.hid (strs_L3 w3 9)
  refine (aw_path2 _ _ (hd.below H4.out) S4.out).mono ?_
  rintro e w5 ⟨g2, o2, c2, rfl, hp2, hb5⟩
  have H5 := Lib.hid (bthen H4.out hb5)
  have S5 := Lib.hid (S4.out.below hb5)
  have P5 := Lib.hid hp2
  clear hb5 hp2
  go_wp2_with fail
  refine (aw_path0 _ _ (hd.below H5.out) S5.out).mono ?_
  rintro e w6 ⟨g0, o0, c0, rfl, hq0, hq1, hb6⟩
  have H6 := Lib.hid (bthen H5.out hb6)
  have S6 := Lib.hid (S5.out.below hb6)
  have P6 := Lib.hid ((hb6.cell (World.block_lt_of_cell? w5 _ P5.out)).trans P5.out)
  have Q6 := Lib.hid (And.intro hq0 hq1)
  clear hb6 hq0 hq1 P5
  go_wp2_with fail
  refine (aw_path3 _ _ (hd.below H6.out) S6.out).mono ?_
  rintro e w7 ⟨A3, c3, rfl, hb7⟩
  have H7 := Lib.hid (bthen H6.out hb7)
  have S7 := Lib.hid (S6.out.below hb7)
  have P7 := Lib.hid ((hb7.cell (World.block_lt_of_cell? w6 _ P6.out)).trans P6.out)
  have Q7 := Lib.hid (And.intro ((hb7.cell (World.block_lt_of_cell? w6 _ Q6.out.1)).trans Q6.out.1) ((hb7.cell (World.block_lt_of_cell? w6 _ Q6.out.2)).trans Q6.out.2))
  clear hb7 Q6 P6
  go_wp2_with fail
  have hd7 := (hd.below H7.out).drew
  have S72 : Strs w7.drew (some ⟨w3.heap.size, 0, none⟩) [sa, sb] := (strs_take S7.out 2).drew
  have p0 := P7.out
  have q0 := Q7.out.1
  have q1 := Q7.out.2
  rw [leaf_b] at q0
  rw [leaf_c] at q1
  have lp := World.block_lt_of_cell? w7 _ p0
  have lq := World.block_lt_of_cell? w7 _ q0
  have p0d : w7.drew.cell? ⟨g2, o2, none⟩ = some (.string (nodeS (leafS sa) (leafS sb))) := p0
  have q0d : w7.drew.cell? ⟨g0, o0, none⟩ = some (.string (textS ⟨#[48, 98]⟩)) := q0
  have q1d : w7.drew.cell? ⟨g0, o0 + 1, none⟩ = some (.string (textS ⟨#[48, 99]⟩)) := q1
  go_region_held3 (fun w' => w'.cell? ⟨g2, o2, none⟩ = some (.string (nodeS (leafS sa) (leafS sb))) ∧ w'.cell? ⟨g0, o0, none⟩ = some (.string (textS ⟨#[48, 98]⟩)) ∧ w'.cell? ⟨g0, o0 + 1, none⟩ = some (.string (textS ⟨#[48, 99]⟩)))
    (first
      | with_reducible exact ⟨p0d, q0d, q1d⟩
      | exact ⟨(hb8.cell (p := ⟨g2, o2, none⟩) lp).trans p0d, (hb8.cell (p := ⟨g0, o0, none⟩) lq).trans q0d, (hb8.cell (p := ⟨g0, o0 + 1, none⟩) lq).trans q1d⟩)
    (first
      | (go_at_call 29; refine (aw_root2 _ _ hd7 S72).mono ?_; rintro e w8 ⟨rfl, hb8⟩))
  have H8 := Lib.hid (bthen H7.out.drew hb8)
  have S8 := Lib.hid (S7.out.drew.below hb8)
  clear p0 q0 q1 p0d q0d q1d lp lq hb8 P7 Q7
  have z1 : (((textS ⟨#[48, 97]⟩).size : Int) == 16) = true := by rw [textS_size]; rfl
  have n1 : (textS ⟨#[48, 97]⟩).size ≤ 16 := Nat.le_of_eq (textS_size _)
  have n2 : (textS ⟨#[48, 98]⟩).size ≤ 16 := Nat.le_of_eq (textS_size _)
  have n3 : (textS ⟨#[49, 58, 107, 109]⟩).size ≤ 16 := Nat.le_of_eq (textS_size _)
  have n4 : (textS ⟨#[115, 124, 112]⟩).size ≤ 16 := Nat.le_of_eq (textS_size _)
  have N1 : Hid (((⟨#[49]⟩ : ByteArray) ++ textS ⟨#[48, 97]⟩ ++ textS ⟨#[48, 98]⟩).size ≤ 9223372036854775807) := nodeS_room _ _ (by omega) (by omega)
  have N2 : Hid (((⟨#[49, 58, 107]⟩ : ByteArray) ++ textS ⟨#[49, 58, 107, 109]⟩).size ≤ 9223372036854775807) := by
    show _ ≤ _; rw [ByteArray.size_append, textS_size]; decide
  have N3 : Hid ((textS ⟨#[115, 124, 112]⟩ ++ (⟨#[124, 115]⟩ : ByteArray)).size ≤ 9223372036854775807) := by
    show _ ≤ _; rw [ByteArray.size_append, textS_size]; decide
  go_wp2_with fail
  refine (aw_root1b _ _ (hd.below H8.out) S8.out).mono ?_
  rintro e w9 ⟨rfl, hb9⟩
  have H9 := Lib.hid (bthen H8.out hb9)
  have S9 := Lib.hid (S8.out.below hb9)
  clear hb9
  go_wp2_with fail
  refine (aw_root2b _ _ (hd.below H9.out) S9.out).mono ?_
  rintro e w10 ⟨rfl, hb10⟩
  have H10 := Lib.hid (bthen H9.out hb10)
  clear hb10
  go_wp2_with fail
  refine (text_any _ _ (hd.below H10.out) N1.out).mono ?_
  rintro e w11 ⟨rfl, hb11⟩
  have H11 := Lib.hid (bthen H10.out hb11)
  clear hb11
  go_wp2_with fail
  refine (aw_mac _ (hd.below H11.out) (hp.below H11.out)).mono ?_
  rintro e w12 ⟨rfl, hb12⟩
  have H12 := Lib.hid (bthen H11.out hb12)
  clear hb12
  go_wp2_with fail
  refine (text_any _ _ (hd.below H12.out) (by decide)).mono ?_
  rintro e w13 ⟨rfl, hb13⟩
  have H13 := Lib.hid (bthen H12.out hb13)
  clear hb13
  go_wp2_with fail
  refine (text_any _ _ (hd.below H13.out) N2.out).mono ?_
  rintro e w14 ⟨rfl, hb14⟩
  have H14 := Lib.hid (bthen H13.out hb14)
  clear hb14
  go_wp2_with fail
  refine (aw_iter _ (hd.below H14.out)).mono ?_
  rintro e w15 ⟨rfl, hb15⟩
  have H15 := Lib.hid (bthen H14.out hb15)
  clear hb15
  go_wp2_with fail
  refine (text_any _ _ (hd.below H15.out) (by decide)).mono ?_
  rintro e w16 ⟨rfl, hb16⟩
  have H16 := Lib.hid (bthen H15.out hb16)
  clear hb16
  go_wp2_with fail
  refine (text_any _ _ (hd.below H16.out) N3.out).mono ?_
  rintro e w17 ⟨rfl, hb17⟩
  have H17 := Lib.hid (bthen H16.out hb17)
  clear hb17
  go_wp2_with fail
  refine (aw_chain _ (hd.below H17.out)).mono ?_
  rintro e w18 ⟨rfl, hb18⟩
  have H18 := Lib.hid (bthen H17.out hb18)
  clear hb18
  go_wp2_with fail
  refine (text_any _ _ (hd.below H18.out) (by decide)).mono ?_
  rintro e w19 ⟨rfl, hb19⟩
  have H19 := Lib.hid (bthen H18.out hb19)
  clear hb19
  go_wp2_with fail
  refine (aw_proves1 _ (hd.below H19.out)).mono ?_
  rintro e w20 ⟨rfl, hb20⟩
  have H20 := Lib.hid (bthen H19.out hb20)
  clear hb20
  go_wp2_with fail
  refine (aw_proves2 _ (hd.below H20.out)).mono ?_
  rintro e w21 ⟨rfl, hb21⟩
  have H21 := Lib.hid (bthen H20.out hb21)
  clear hb21
  go_wp2_with fail
  go_ret
  exact ⟨rfl, H21.out⟩
end Go.Proofs.YtnbdlehkadiepaaDoor
