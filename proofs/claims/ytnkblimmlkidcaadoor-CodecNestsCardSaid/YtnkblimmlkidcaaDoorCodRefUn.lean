/- identityref02.Unescape computes unescS, unescE. -/
import Derived.Test.YtnkblimmlkidcaaDoorCodRefEsc
import Derived.Deep.RegionHeld3
namespace Go.Proofs.YtnkblimmlkidcaaDoor
open Go.RowKit

theorem raw_plain {s : ByteArray} {k : Nat} {pre : List UInt8} {L : Option (List UInt8)} (hk : k < s.size) (hp : s[k].toNat ≠ 37) (HP : (rawE (s.data.toList.drop k) 0).map (pre ++ ·) = L) :
    (rawE (s.data.toList.drop (k + 1)) 0).map ((pre ++ [s[k]]) ++ ·) = L := by
  rw [drop_cons s k hk, rawE, if_neg (by intro e; rw [e] at hp; exact hp rfl), r64_snoc] at HP
  exact HP
theorem raw_short {s : ByteArray} {k : Nat} {pre : List UInt8} {L : Option (List UInt8)} (hk : k < s.size) (h37 : s[k].toNat = 37) (hs : ¬ k + 2 < s.size) (HP : (rawE (s.data.toList.drop k) 0).map (pre ++ ·) = L) : L = none := by
  rw [drop_cons s k hk, u37 h37, rawE, if_pos rfl] at HP
  rw [← HP]
  by_cases h1 : k + 1 < s.size
  · rw [drop_cons s (k + 1) h1, rawE, List.drop_of_length_le (by simp; have : s.size = s.data.size := rfl; omega)]
    cases hexV s[k + 1] <;> rfl
  · rw [List.drop_of_length_le (by simp; have : s.size = s.data.size := rfl; omega)]; rfl
theorem raw_hex {s : ByteArray} {k : Nat} {pre : List UInt8} {L : Option (List UInt8)} (hs : k + 2 < s.size) (h37 : s[k].toNat = 37) (HP : (rawE (s.data.toList.drop k) 0).map (pre ++ ·) = L) :
    (((hexV s[k + 1]).bind fun a => (hexV s[k + 2]).bind fun b => (rawE (s.data.toList.drop (k + 3)) 0).map (UInt8.ofNat (a * 16 + b) :: ·)).map (pre ++ ·)) = L := by
  rw [drop_cons s k (by omega), u37 h37, rawE, if_pos rfl, drop_cons s (k + 1) (by omega), rawE, drop_cons s (k + 2) hs] at HP
  rw [← HP]
  cases hexV s[k + 1] with
  | none => rfl
  | some a => rw [Option.bind_some, Option.bind_some, rawE]
theorem raw_none {s : ByteArray} (h : rawE s.data.toList 0 = none) : unescS s = ⟨#[]⟩ ∧ unescE s = 4 := un_none (by rw [raw_same, h]; rfl)
theorem raw_end {s : ByteArray} {k : Nat} {pre : List UInt8} (hk : ¬ k < s.size) (HP : (rawE (s.data.toList.drop k) 0).map (pre ++ ·) = rawE s.data.toList 0) :
    unescO s = if escL pre = s.data.toList then some ⟨pre.toArray⟩ else none := by
  rw [List.drop_of_length_le (by simp; have : s.size = s.data.size := rfl; omega), rawE] at HP
  rw [unescO, raw_same, ← HP]
  by_cases h : escL pre = s.data.toList <;> simp [h]
theorem un_noneO {s : ByteArray} (h : unescO s = none) : unescS s = ⟨#[]⟩ ∧ unescE s = 4 := by
  simp [unescS, unescE, h]; rfl
theorem digit_at (c : UInt8) (v : Nat) (w : World) (h : hexV c = some v) :
    Calls Tryd.prog 41 #[.int .u8 (c.toNat : Int)] w fun e w' => e = .returned (.int .i64 (v : Int)) ∧ w = w' := by
  have := digit_any c w; rw [digZ_some h] at this; exact this
theorem digit_none (c : UInt8) (w : World) (h : hexV c = none) :
    Calls Tryd.prog 41 #[.int .u8 (c.toNat : Int)] w fun e w' => e = .returned (.int .i64 (-1)) ∧ w = w' := by
  have := digit_any c w; rw [digZ_none h] at this; exact this

set_option maxHeartbeats 4000000 in
set_option maxRecDepth 100000 in
theorem runesc_any (s : ByteArray) (w : World) (hs : s.size ≤ 1000000000) :
    Calls Tryd.prog 16 #[.string s] w fun e w' => e = .returned (.tuple #[.string (unescS s), .int .i64 (unescE s)]) ∧ Below w.heap.size w w' := by
  obtain ⟨i0, hi, hz0, hz1, hz2⟩ := info_parts info_byte
  go_enter Tryd.func16, Tryd.ntmps16
  go_wp2_with fail
  go_loopw [4, 5] (fun v i wr => ∃ (k : Nat) (pre : List UInt8), k ≤ s.size ∧ i = .int .i64 k ∧ wr.ownsRow w.heap.size 5 1 v pre.length (Lib.byteCells pre) ∧ Hid ((rawE (s.data.toList.drop k) 0).map (pre ++ ·) = rawE s.data.toList 0) ∧ pre.length ≤ k ∧ Below w.heap.size w wr) (fun _ i _ => s.size - (intOf i).toNat)
  case atStart => exact ⟨0, [], Nat.zero_le _, rfl, World.ownsRow_nil _ _ _ _, Lib.hid (by simp), Nat.zero_le _, Below.refl _ _⟩
  case round =>
    obtain ⟨k, pre, hk, rfl, hown, HP, hpl, hbr⟩ := hrel
    by_cases hlt : k < s.size
    · by_cases h37 : s[k].toNat = 37
      · have H37 := Lib.hid h37
        have hb37 : ((37 : Int) != 37) = false := rfl
        by_cases h2 : k + 2 < s.size
        · have HX := raw_hex h2 H37.out HP.out
          have hw1 : IntKind.i64.wrap ((k : Int) + 1) = (k : Int) + 1 := IntWalk.i64_in _ (by omega)
          have hw2 : IntKind.i64.wrap ((k : Int) + 2) = (k : Int) + 2 := IntWalk.i64_in _ (by omega)
          have hb1a : (0 : Int) ≤ (k : Int) + 1 := by omega
          have hb1b : (k : Int) + 1 < (s.size : Int) := by omega
          have hb2a : (0 : Int) ≤ (k : Int) + 2 := by omega
          have hb2b : (k : Int) + 2 < (s.size : Int) := by omega
          obtain ⟨c1, hc1⟩ : ∃ c1, s[k + 1] = c1 := ⟨_, rfl⟩
          obtain ⟨c2, hc2⟩ : ∃ c2, s[k + 2] = c2 := ⟨_, rfl⟩
          rw [hc1, hc2] at HX
          cases h1 : hexV c1 with
          | none =>
            rw [h1, Option.bind_none, Option.map_none] at HX
            have hN := Lib.hid (raw_none HX.symm)
            have H1 := Lib.hid h1
            clear h1 HX
            go_wp2_with fail
            refine (digit_none _ _ H1.out).mono ?_
            rintro e w1 ⟨rfl, rfl⟩
            go_wp2_with fail
            go_ret2
            exact ⟨ret_se hN.out.1.symm hN.out.2.symm, hbr⟩
          | some a =>
            rw [h1, Option.bind_some] at HX
            have H1 := Lib.hid h1
            have hal := hexV_lt h1
            clear h1
            cases hv2 : hexV c2 with
            | none =>
              rw [hv2, Option.bind_none, Option.map_none] at HX
              have hN := Lib.hid (raw_none HX.symm)
              have H2 := Lib.hid hv2
              clear hv2 HX
              go_wp2_with fail
              refine (digit_at _ _ _ H1.out).mono ?_
              rintro e w1 ⟨rfl, rfl⟩
              go_wp2_with fail
              refine (digit_none _ _ H2.out).mono ?_
              rintro e w1 ⟨rfl, rfl⟩
              go_wp2_with fail
              go_ret2
              exact ⟨ret_se hN.out.1.symm hN.out.2.symm, hbr⟩
            | some b =>
              rw [hv2, Option.bind_some, r64_snoc] at HX
              have H2 := Lib.hid hv2
              have hbl := hexV_lt hv2
              clear hv2
              obtain ⟨x, HXx⟩ : ∃ x, Hid (16 * a = x) := ⟨_, Lib.hid rfl⟩
              have e1 : IntKind.i64.wrap (16 * (a : Int)) = (x : Int) := by rw [IntWalk.i64_in _ (by omega)]; have := HXx.out; omega
              obtain ⟨z, HZ⟩ : ∃ z, Hid (x + b = z) := ⟨_, Lib.hid rfl⟩
              have e2 : IntKind.i64.wrap ((x : Int) + (b : Int)) = (z : Int) := by rw [IntWalk.i64_in _ (by have := HXx.out; omega)]; have := HZ.out; omega
              obtain ⟨q, HQq⟩ : ∃ q, Hid (UInt8.ofNat (a * 16 + b) = q) := ⟨_, Lib.hid rfl⟩
              have eb : IntKind.u8.wrap (z : Int) = (q.toNat : Int) := by rw [wrap_u8, ← HQq.out, ← HZ.out, ← HXx.out, Nat.mul_comm]
              rw [HQq.out] at HX
              have HP1 := Lib.hid HX
              clear HX
              have hn2 : ((k : Int) + 2).toNat = k + 2 := by omega
              have hi1 : (0 : Int) ≤ (k : Int) := by omega
              have hi2 : (k : Int) < (s.size : Int) := by omega
              go_wp2_with fail
              refine (digit_at _ _ _ H1.out).mono ?_
              rintro e w1 ⟨rfl, rfl⟩
              go_wp2_with fail
              refine (digit_at _ _ _ H2.out).mono ?_
              rintro e w1 ⟨rfl, rfl⟩
              go_wp2_with fail
              have hbr' := hbr.drew
              go_region_held3 (fun _ => True) (trivial) (first
                | (go_at_call_of 41 c1; refine (digit_at c1 a _ H1.out).mono ?_; rintro e w2 ⟨rfl, rfl⟩)
                | (go_at_call_of 41 c2; refine (digit_at c2 b _ H2.out).mono ?_; rintro e w2 ⟨rfl, rfl⟩)
                | (refine step_append_lies _ (by rfl) _ _ _ (by rfl) w.heap.size 5 i0 _ 1 1 Tryd.underlying50 hi hz0 hz1 hz2 rfl (by omega) _ pre.length (Lib.byteCells pre) (by rfl) ?_ ⟨wr.heap.size, 0, none⟩ 1 1 [.int .u8 (q.toNat : Int)] (by rfl) (by rfl) ?_ ?_ (by omega) (by unfold maxLen; omega) (by omega) ?_ (wr.heap.size + 1) ?_ ?_; exact (hown.alloc _).drew; exact cell_one_new _ _ _; (intro u hu; simp at hu; subst hu; rfl); (have := hbr.size; simp; omega); (simp); (intro gg cap w0 ho0 hg0 hat hlt3)))
              all_goals
                have hb0 : Below w.heap.size w w0 := (hbr'.alloc (hbr'.size) _).grown hg0 (by have : w.heap.size ≤ wr.heap.size := hbr.size; simp; omega) (fun q hq => (hown.lt q hq).1)
                have hw0 := own_snoc ho0
                clear ho0 hg0
                go_wp2_with fail
                go_roundw
                case rel => exact ⟨k + 3, pre ++ [q], by omega, by go_num, by simpa using hw0, HP1, by simp; omega, hb0⟩
                case measure => simp [intOf]; omega
        · have hN := Lib.hid (raw_none (raw_short hlt H37.out h2 HP.out))
          go_wp2_with fail
          go_ret2
          exact ⟨ret_se hN.out.1.symm hN.out.2.symm, hbr⟩
      · have hb37 : ((s[k].toNat : Int) != 37) = true := by rw [bne_iff_ne]; omega
        have H37 := Lib.hid h37
        clear h37
        go_wp2_with (at_builtin; refine wpList_append_own _ rfl _ _ 50 rfl w.heap.size 5 i0 (.int .u8 0) 1 1 Tryd.underlying50 hi hz0 hz1 hz2 rfl (by decide) _ _ _ rfl (hown.alloc _) ⟨wr.heap.size, 0, none⟩ 1 1 [.int .u8 (s[k].toNat : Int)] rfl rfl (cell_one_new _ _ _) (by intro u hu; simp at hu; subst hu; rfl) (by unfold maxLen; simp; omega) (by simp; omega) (by have := hbr.size; simp; omega) ?_; intro v0 w0 ho0 hg0 _)
        have hb0 : Below w.heap.size w w0 := (hbr.alloc (hbr.size) _).grown hg0 (by have := hbr.size; simp; omega) (fun q hq => (hown.lt q hq).1)
        have hw0 := own_snoc ho0
        clear ho0 hg0
        go_wp2_with fail
        go_roundw
        case rel => exact ⟨k + 1, pre ++ [s[k]], by omega, by go_num, by simpa using hw0, Lib.hid (raw_plain hlt H37.out HP.out), by simp; omega, hb0⟩
        case measure => simp [intOf]; omega
    · have hE := Lib.hid (raw_end hlt HP.out)
      have hcv := conv_own hown
      have hsz : (⟨pre.toArray⟩ : ByteArray).size ≤ 1000000000 := by show pre.toArray.size ≤ _; simp; omega
      have HSZ := Lib.hid hsz
      clear hsz
      by_cases he : escL pre = s.data.toList
      · have hG := Lib.hid (un_some (hE.out.trans (if_pos he)))
        have hq : (escS ⟨pre.toArray⟩) = s := by
          apply ByteArray.ext
          simp [escS, he]
        have hr := resc_any ⟨pre.toArray⟩ wr HSZ.out
        rw [hq] at hr
        have hss : (s.toList == s.toList) = true := by simp
        clear he hq
        go_wp2_with fail
        refine hr.mono ?_
        rintro e w1 ⟨rfl, hb1⟩
        have hcv1 := conv_own (own_below hown hb1)
        go_wp2_with fail
        go_ret2
        exact ⟨ret_se hG.out.1.symm hG.out.2.symm, hbr.trans (hb1.mono hbr.size)⟩
      · have hG := Lib.hid (un_noneO (hE.out.trans (if_neg he)))
        have hne : escS ⟨pre.toArray⟩ ≠ s := by
          intro e
          apply he
          rw [← e]; simp [escS]
        have hr := resc_any ⟨pre.toArray⟩ wr HSZ.out
        generalize escS ⟨pre.toArray⟩ = q at hr hne
        have hss := str_ne hne
        clear he hne
        go_wp2_with fail
        refine hr.mono ?_
        rintro e w1 ⟨rfl, hb1⟩
        go_wp2_with fail
        go_ret2
        exact ⟨ret_se hG.out.1.symm hG.out.2.symm, hbr.trans (hb1.mono hbr.size)⟩
end Go.Proofs.YtnkblimmlkidcaaDoor
