/- Joined: CodRefUn, CodRefCut, CodJoinP, CodSJoin, CodBetween, CodJoin, CodRJoin, CodSplit, CodLen0. -/
import Derived.Test.YthdpkfddmkijlaaGreatDoorSeg2
import Derived.Deep.RegionHeld3
import Derived.Test.YthdpkfddmkijlaaGreatDoorSeg1
import Derived.Deep.AppendLies
/- identityref02.Unescape computes unescS, unescE. -/
namespace Go.Proofs.YthdpkfddmkijlaaGreatDoor
open Go.RowKit

theorem raw_plain {s : ByteArray} {k : Nat} {pre : List UInt8} {L : Option (List UInt8)} (hk : k < s.size) (hp : s[k].toNat ≠ 37) (HP : (rawE (s.data.toList.drop k) 0).map (pre ++ ·) = L) :
    (rawE (s.data.toList.drop (k + 1)) 0).map ((pre ++ [s[k]]) ++ ·) = L := by
  rw [drop_cons s k hk, rawE, if_neg (by intro e; rw [e] at hp; exact hp rfl), r64_snoc] at HP
  exact HP
theorem raw_short {s : ByteArray} {k : Nat} {pre : List UInt8} {L : Option (List UInt8)} (hk : k < s.size) (h37 : s[k].toNat = 37) (hs : ¬ k + 2 < s.size) (HP : (rawE (s.data.toList.drop k) 0).map (pre ++ ·) = L) : L = none := by
  rw [drop_cons s k hk, u37 h37, rawE, if_pos rfl] at HP
  rw [← HP]
  by_cases h1 : k + 1 < s.size
  · rw [drop_cons s (k + 1) h1, rawE, List.drop_of_length_le (by simp; have : s.size = s.data.size := rfl; omega)]
    cases hexV s[k + 1] <;> rfl
  · rw [List.drop_of_length_le (by simp; have : s.size = s.data.size := rfl; omega)]; rfl
theorem raw_hex {s : ByteArray} {k : Nat} {pre : List UInt8} {L : Option (List UInt8)} (hs : k + 2 < s.size) (h37 : s[k].toNat = 37) (HP : (rawE (s.data.toList.drop k) 0).map (pre ++ ·) = L) :
    (((hexV s[k + 1]).bind fun a => (hexV s[k + 2]).bind fun b => (rawE (s.data.toList.drop (k + 3)) 0).map (UInt8.ofNat (a * 16 + b) :: ·)).map (pre ++ ·)) = L := by
  rw [drop_cons s k (by omega), u37 h37, rawE, if_pos rfl, drop_cons s (k + 1) (by omega), rawE, drop_cons s (k + 2) hs] at HP
  rw [← HP]
  cases hexV s[k + 1] with
  | none => rfl
  | some a => rw [Option.bind_some, Option.bind_some, rawE]
theorem raw_none {s : ByteArray} (h : rawE s.data.toList 0 = none) : unescS s = ⟨#[]⟩ ∧ unescE s = 4 := un_none (by rw [raw_same, h]; rfl)
theorem raw_end {s : ByteArray} {k : Nat} {pre : List UInt8} (hk : ¬ k < s.size) (HP : (rawE (s.data.toList.drop k) 0).map (pre ++ ·) = rawE s.data.toList 0) :
    unescO s = if escL pre = s.data.toList then some ⟨pre.toArray⟩ else none := by
  rw [List.drop_of_length_le (by simp; have : s.size = s.data.size := rfl; omega), rawE] at HP
  rw [unescO, raw_same, ← HP]
  by_cases h : escL pre = s.data.toList <;> simp [h]
theorem un_noneO {s : ByteArray} (h : unescO s = none) : unescS s = ⟨#[]⟩ ∧ unescE s = 4 := by
  simp [unescS, unescE, h]; rfl
theorem digit_at (c : UInt8) (v : Nat) (w : World) (h : hexV c = some v) :
    Calls Tryz.prog 109 #[.int .u8 (c.toNat : Int)] w fun e w' => e = .returned (.int .i64 (v : Int)) ∧ w = w' := by
  have := digit_any c w; rw [digZ_some h] at this; exact this
theorem digit_none (c : UInt8) (w : World) (h : hexV c = none) :
    Calls Tryz.prog 109 #[.int .u8 (c.toNat : Int)] w fun e w' => e = .returned (.int .i64 (-1)) ∧ w = w' := by
  have := digit_any c w; rw [digZ_none h] at this; exact this

set_option maxHeartbeats 4000000 in
set_option maxRecDepth 100000 in
theorem runesc_any (s : ByteArray) (w : World) (hs : s.size ≤ 1000000000) :
    Calls Tryz.prog 88 #[.string s] w fun e w' => e = .returned (.tuple #[.string (unescS s), .int .i64 (unescE s)]) ∧ Below w.heap.size w w' := by
  obtain ⟨i0, hi, hz0, hz1, hz2⟩ := info_parts info_byte
  go_enter Tryz.func88, Tryz.ntmps88
  go_wp2_with fail
  go_loopw [4, 5] (fun v i wr => ∃ (k : Nat) (pre : List UInt8), k ≤ s.size ∧ i = .int .i64 k ∧ wr.ownsRow w.heap.size 5 1 v pre.length (Lib.byteCells pre) ∧ Hid ((rawE (s.data.toList.drop k) 0).map (pre ++ ·) = rawE s.data.toList 0) ∧ pre.length ≤ k ∧ Below w.heap.size w wr) (fun _ i _ => s.size - (intOf i).toNat)
  case atStart => exact ⟨0, [], Nat.zero_le _, rfl, World.ownsRow_nil _ _ _ _, Lib.hid (by simp), Nat.zero_le _, Below.refl _ _⟩
  case round =>
    obtain ⟨k, pre, hk, rfl, hown, HP, hpl, hbr⟩ := hrel
    by_cases hlt : k < s.size
    · by_cases h37 : s[k].toNat = 37
      · have H37 := Lib.hid h37
        have hb37 : ((37 : Int) != 37) = false := rfl
        by_cases h2 : k + 2 < s.size
        · have HX := raw_hex h2 H37.out HP.out
          have hw1 : IntKind.i64.wrap ((k : Int) + 1) = (k : Int) + 1 := IntWalk.i64_in _ (by omega)
          have hw2 : IntKind.i64.wrap ((k : Int) + 2) = (k : Int) + 2 := IntWalk.i64_in _ (by omega)
          have hb1a : (0 : Int) ≤ (k : Int) + 1 := by omega
          have hb1b : (k : Int) + 1 < (s.size : Int) := by omega
          have hb2a : (0 : Int) ≤ (k : Int) + 2 := by omega
          have hb2b : (k : Int) + 2 < (s.size : Int) := by omega
          obtain ⟨c1, hc1⟩ : ∃ c1, s[k + 1] = c1 := ⟨_, rfl⟩
          obtain ⟨c2, hc2⟩ : ∃ c2, s[k + 2] = c2 := ⟨_, rfl⟩
          rw [hc1, hc2] at HX
          cases h1 : hexV c1 with
          | none =>
            rw [h1, Option.bind_none, Option.map_none] at HX
            have hN := Lib.hid (raw_none HX.symm)
            have H1 := Lib.hid h1
            clear h1 HX
            go_wp2_with fail
            refine (digit_none _ _ H1.out).mono ?_
            rintro e w1 ⟨rfl, rfl⟩
            go_wp2_with fail
            go_ret2
            exact ⟨ret_se hN.out.1.symm hN.out.2.symm, hbr⟩
          | some a =>
            rw [h1, Option.bind_some] at HX
            have H1 := Lib.hid h1
            have hal := hexV_lt h1
            clear h1
            cases hv2 : hexV c2 with
            | none =>
              rw [hv2, Option.bind_none, Option.map_none] at HX
              have hN := Lib.hid (raw_none HX.symm)
              have H2 := Lib.hid hv2
              clear hv2 HX
              go_wp2_with fail
              refine (digit_at _ _ _ H1.out).mono ?_
              rintro e w1 ⟨rfl, rfl⟩
              go_wp2_with fail
              refine (digit_none _ _ H2.out).mono ?_
              rintro e w1 ⟨rfl, rfl⟩
              go_wp2_with fail
              go_ret2
              exact ⟨ret_se hN.out.1.symm hN.out.2.symm, hbr⟩
            | some b =>
              rw [hv2, Option.bind_some, r64_snoc] at HX
              have H2 := Lib.hid hv2
              have hbl := hexV_lt hv2
              clear hv2
              obtain ⟨x, HXx⟩ : ∃ x, Hid (16 * a = x) := ⟨_, Lib.hid rfl⟩
              have e1 : IntKind.i64.wrap (16 * (a : Int)) = (x : Int) := by rw [IntWalk.i64_in _ (by omega)]; have := HXx.out; omega
              obtain ⟨z, HZ⟩ : ∃ z, Hid (x + b = z) := ⟨_, Lib.hid rfl⟩
              have e2 : IntKind.i64.wrap ((x : Int) + (b : Int)) = (z : Int) := by rw [IntWalk.i64_in _ (by have := HXx.out; omega)]; have := HZ.out; omega
              obtain ⟨q, HQq⟩ : ∃ q, Hid (UInt8.ofNat (a * 16 + b) = q) := ⟨_, Lib.hid rfl⟩
              have eb : IntKind.u8.wrap (z : Int) = (q.toNat : Int) := by rw [wrap_u8, ← HQq.out, ← HZ.out, ← HXx.out, Nat.mul_comm]
              rw [HQq.out] at HX
              have HP1 := Lib.hid HX
              clear HX
              have hn2 : ((k : Int) + 2).toNat = k + 2 := by omega
              have hi1 : (0 : Int) ≤ (k : Int) := by omega
              have hi2 : (k : Int) < (s.size : Int) := by omega
              go_wp2_with fail
              refine (digit_at _ _ _ H1.out).mono ?_
              rintro e w1 ⟨rfl, rfl⟩
              go_wp2_with fail
              refine (digit_at _ _ _ H2.out).mono ?_
              rintro e w1 ⟨rfl, rfl⟩
              go_wp2_with fail
              have hbr' := hbr.drew
              go_region_held3 (fun _ => True) (trivial) (first
                | (go_at_call_of 109 c1; refine (digit_at c1 a _ H1.out).mono ?_; rintro e w2 ⟨rfl, rfl⟩)
                | (go_at_call_of 109 c2; refine (digit_at c2 b _ H2.out).mono ?_; rintro e w2 ⟨rfl, rfl⟩)
                | (refine step_append_lies _ (by rfl) _ _ _ (by rfl) w.heap.size 5 i0 _ 1 1 Tryz.underlying81 hi hz0 hz1 hz2 rfl (by omega) _ pre.length (Lib.byteCells pre) (by rfl) ?_ ⟨wr.heap.size, 0, none⟩ 1 1 [.int .u8 (q.toNat : Int)] (by rfl) (by rfl) ?_ ?_ (by omega) (by unfold maxLen; omega) (by omega) ?_ (wr.heap.size + 1) ?_ ?_; exact (hown.alloc _).drew; exact cell_one_new _ _ _; (intro u hu; simp at hu; subst hu; rfl); (have := hbr.size; simp; omega); (simp); (intro gg cap w0 ho0 hg0 hat hlt3)))
              all_goals
                have hb0 : Below w.heap.size w w0 := (hbr'.alloc (hbr'.size) _).grown hg0 (by have : w.heap.size ≤ wr.heap.size := hbr.size; simp; omega) (fun q hq => (hown.lt q hq).1)
                have hw0 := own_snoc ho0
                clear ho0 hg0
                go_wp2_with fail
                go_roundw
                case rel => exact ⟨k + 3, pre ++ [q], by omega, by go_num, by simpa using hw0, HP1, by simp; omega, hb0⟩
                case measure => simp [intOf]; omega
        · have hN := Lib.hid (raw_none (raw_short hlt H37.out h2 HP.out))
          go_wp2_with fail
          go_ret2
          exact ⟨ret_se hN.out.1.symm hN.out.2.symm, hbr⟩
      · have hb37 : ((s[k].toNat : Int) != 37) = true := by rw [bne_iff_ne]; omega
        have H37 := Lib.hid h37
        clear h37
        go_wp2_with (at_builtin; refine wpList_append_own _ rfl _ _ 81 rfl w.heap.size 5 i0 (.int .u8 0) 1 1 Tryz.underlying81 hi hz0 hz1 hz2 rfl (by decide) _ _ _ rfl (hown.alloc _) ⟨wr.heap.size, 0, none⟩ 1 1 [.int .u8 (s[k].toNat : Int)] rfl rfl (cell_one_new _ _ _) (by intro u hu; simp at hu; subst hu; rfl) (by unfold maxLen; simp; omega) (by simp; omega) (by have := hbr.size; simp; omega) ?_; intro v0 w0 ho0 hg0 _)
        have hb0 : Below w.heap.size w w0 := (hbr.alloc (hbr.size) _).grown hg0 (by have := hbr.size; simp; omega) (fun q hq => (hown.lt q hq).1)
        have hw0 := own_snoc ho0
        clear ho0 hg0
        go_wp2_with fail
        go_roundw
        case rel => exact ⟨k + 1, pre ++ [s[k]], by omega, by go_num, by simpa using hw0, Lib.hid (raw_plain hlt H37.out HP.out), by simp; omega, hb0⟩
        case measure => simp [intOf]; omega
    · have hE := Lib.hid (raw_end hlt HP.out)
      have hcv := conv_own hown
      have hsz : (⟨pre.toArray⟩ : ByteArray).size ≤ 1000000000 := by show pre.toArray.size ≤ _; simp; omega
      have HSZ := Lib.hid hsz
      clear hsz
      by_cases he : escL pre = s.data.toList
      · have hG := Lib.hid (un_some (hE.out.trans (if_pos he)))
        have hq : (escS ⟨pre.toArray⟩) = s := by
          apply ByteArray.ext
          simp [escS, he]
        have hr := resc_any ⟨pre.toArray⟩ wr HSZ.out
        rw [hq] at hr
        have hss : (s.toList == s.toList) = true := by simp
        clear he hq
        go_wp2_with fail
        refine hr.mono ?_
        rintro e w1 ⟨rfl, hb1⟩
        have hcv1 := conv_own (own_below hown hb1)
        go_wp2_with fail
        go_ret2
        exact ⟨ret_se hG.out.1.symm hG.out.2.symm, hbr.trans (hb1.mono hbr.size)⟩
      · have hG := Lib.hid (un_noneO (hE.out.trans (if_neg he)))
        have hne : escS ⟨pre.toArray⟩ ≠ s := by
          intro e
          apply he
          rw [← e]; simp [escS]
        have hr := resc_any ⟨pre.toArray⟩ wr HSZ.out
        generalize escS ⟨pre.toArray⟩ = q at hr hne
        have hss := str_ne hne
        clear he hne
        go_wp2_with fail
        refine hr.mono ?_
        rintro e w1 ⟨rfl, hb1⟩
        go_wp2_with fail
        go_ret2
        exact ⟨ret_se hG.out.1.symm hG.out.2.symm, hbr.trans (hb1.mono hbr.size)⟩
end Go.Proofs.YthdpkfddmkijlaaGreatDoor

/- identityref02.Cut. -/
namespace Go.Proofs.YthdpkfddmkijlaaGreatDoor
open Go.RowKit

set_option maxHeartbeats 2000000 in
set_option maxRecDepth 100000 in
theorem rcut_any (s : ByteArray) (c : UInt8) (w : World) (hs : s.size ≤ 1000000000) :
    Calls Tryz.prog 87 #[.string s, .int .u8 (c.toNat : Int)] w fun e w' => RetStrs w.heap.size w' e (cutsS s c) ∧ Below w.heap.size w w' := by
  obtain ⟨i0, hi, hz0, hz1, hz2⟩ := info_parts Tryz.info_s
  go_enter Tryz.func87, Tryz.ntmps87
  go_wp2_with fail
  go_loopw [5, 6, 7] (fun v fr i wr => ∃ (k f : Nat) (P : List ByteArray), k ≤ s.size ∧ f ≤ k ∧ i = .int .i64 k ∧ fr = .int .i64 f ∧ wr.ownsRow w.heap.size 9 1 v P.length (strVs P) ∧ Hid (P ++ cutsL c (s.data.toList.drop f) = cutsS s c) ∧ Hid (c ∉ (s.data.toList.take k).drop f) ∧ P.length ≤ k ∧ Below w.heap.size w wr) (fun _ _ i _ => s.size - (intOf i).toNat)
  case atStart => exact ⟨0, 0, [], Nat.zero_le _, Nat.zero_le _, rfl, rfl, World.ownsRow_nil _ _ _ _, Lib.hid rfl, Lib.hid (by simp), Nat.zero_le _, Below.refl _ _⟩
  case round =>
    obtain ⟨k, f, P, hk, hf, rfl, rfl, hown, HP, HN, hpl, hbr⟩ := hrel
    by_cases hlt : k < s.size
    · by_cases hc : s[k] = c
      · have HC := Lib.hid hc
        have hceq : ((s[k].toNat : Int) == (c.toNat : Int)) = true := by rw [hc]; simp
        clear hc
        go_wp2_with (at_builtin; refine wpList_append_own _ rfl _ _ 33 rfl w.heap.size 9 i0 (.string ByteArray.empty) 1 16 Tryz.underlying33 hi hz0 hz1 hz2 rfl (by decide) _ _ _ rfl (hown.alloc _) ⟨wr.heap.size, 0, none⟩ 1 1 [strV (s.extract f k)] rfl rfl (cell_one_new _ _ _) (by intro u hu; simp at hu; subst hu; rfl) (by unfold maxLen; omega) (by omega) (by have := hbr.size; simp; omega) ?_; intro v' w1 hown1 hg1 _)
        have hb1 : Below w.heap.size w w1 := (hbr.alloc (hbr.size) _).grown hg1 (by have := hbr.size; simp; omega) (fun q hq => (hown.lt q hq).1)
        have HO : Hid (w1.ownsRow w.heap.size 9 1 v' (P ++ [s.extract f k]).length (strVs (P ++ [s.extract f k]))) := by
          show World.ownsRow _ _ _ _ _ _ _
          rw [← strVs_snoc, List.length_append]; exact hown1
        clear hown1 hg1
        go_wp2_with fail
        go_roundw
        case rel => exact ⟨k + 1, k + 1, P ++ [s.extract f k], by omega, by omega, by go_num, by go_num, HO.out, Lib.hid (cuts_step hf hlt HC.out HN.out HP.out), Lib.hid (by simp), by simp; omega, hb1⟩
        case measure => simp [intOf]; omega
      · have HC := Lib.hid hc
        have hcne : ((s[k].toNat : Int) == (c.toNat : Int)) = false := by
          rw [beq_eq_false_iff_ne]
          intro e
          exact hc (UInt8.toNat_inj.1 (by omega))
        clear hc
        go_wp2_with fail
        go_roundw
        case rel => exact ⟨k + 1, f, P, by omega, by omega, by go_num, rfl, hown, HP, Lib.hid (cuts_next hf hlt HC.out HN.out), by omega, hbr⟩
        case measure => simp [intOf]; omega
    · have HE := Lib.hid (cuts_end hlt HN.out HP.out)
      go_wp2_with (at_builtin; refine wpList_append_own _ rfl _ _ 33 rfl w.heap.size 9 i0 (.string ByteArray.empty) 1 16 Tryz.underlying33 hi hz0 hz1 hz2 rfl (by decide) _ _ _ rfl (hown.alloc _) ⟨wr.heap.size, 0, none⟩ 1 1 [strV (s.extract f s.size)] rfl rfl (cell_one_new _ _ _) (by intro u hu; simp at hu; subst hu; rfl) (by unfold maxLen; omega) (by omega) (by have := hbr.size; simp; omega) ?_; intro v' w1 hown1 hg1 _)
      have hb1 : Below w.heap.size w w1 := (hbr.alloc (hbr.size) _).grown hg1 (by have := hbr.size; simp; omega) (fun q hq => (hown.lt q hq).1)
      have HO : Hid (w1.ownsRow w.heap.size 9 1 v' (P ++ [s.extract f s.size]).length (strVs (P ++ [s.extract f s.size]))) := by
        show World.ownsRow _ _ _ _ _ _ _
        rw [← strVs_snoc, List.length_append]; exact hown1
      clear hown1 hg1
      go_wp2_with fail
      go_ret
      refine ⟨?_, hb1⟩
      have ho := HO.out
      rw [HE.out] at ho
      exact RetStrs.own ho rfl (strVs_at _)
end Go.Proofs.YthdpkfddmkijlaaGreatDoor

/- Plain: strings with a byte between them, one after the other. -/
namespace Go.Proofs.YthdpkfddmkijlaaGreatDoor
open Go.RowKit

theorem joinL_snoc (c : UInt8) : ∀ (ps : List (List UInt8)) (p : List UInt8), ps ≠ [] → joinL c (ps ++ [p]) = joinL c ps ++ c :: p
  | [], p, h => absurd rfl h
  | [q], p, _ => by simp [joinL]
  | q :: r :: ps, p, _ => by
    have ih := joinL_snoc c (r :: ps) p (by simp)
    rw [List.cons_append, joinL_cons c q _ (by simp), ih, joinL_cons c q (r :: ps) (by simp)]
    simp
theorem joinC_zero (c : UInt8) (l : List ByteArray) : joinC c (l.take 0) = ⟨#[]⟩ := by simp [joinC, joinL, bsOf]
theorem joinC_nil (c : UInt8) : joinC c [] = ⟨#[]⟩ := by simp [joinC, joinL, bsOf]
theorem joinC_one (c : UInt8) (s : ByteArray) : joinC c [s] = s := by simp [joinC, joinL, bsOf_list]
theorem take_one (l : List ByteArray) (h : 0 < l.length) : l.take 1 = [l[0]] := by
  cases l with
  | nil => simp at h
  | cons a l => simp
theorem joinC_snoc (c : UInt8) (l : List ByteArray) (k : Nat) (h0 : 0 < k) (h : k < l.length) : joinC c (l.take (k + 1)) = joinC c (l.take k) ++ ⟨#[c]⟩ ++ l[k] := by
  apply ByteArray.ext
  rw [List.take_succ_eq_append_getElem h, joinC, List.map_append, List.map_cons, List.map_nil, joinL_snoc _ _ _ (by intro e; have := congrArg List.length e; rw [List.length_map, List.length_take, List.length_nil] at this; omega)]
  simp [joinC, bsOf]
theorem joinC_size (c : UInt8) (l : List ByteArray) (M : Nat) (hz : ∀ s ∈ l, s.size ≤ M) : ∀ k, k ≤ l.length → (joinC c (l.take k)).size ≤ k * (M + 1) := by
  intro k
  induction k with
  | zero => intro _; rw [joinC_zero]; exact Nat.zero_le _
  | succ k ih =>
    intro hk
    have h1 := hz _ (List.getElem_mem (show k < l.length by omega))
    by_cases h0 : k = 0
    · subst h0
      rw [take_one l (by omega), joinC_one]; omega
    · rw [joinC_snoc c l k (by omega) (by omega)]
      have h2 := ih (by omega)
      have h3 : (⟨#[c]⟩ : ByteArray).size = 1 := rfl
      rw [ByteArray.size_append, ByteArray.size_append, h3, Nat.succ_mul]
      omega
theorem joinC_all (c : UInt8) (l : List ByteArray) (k : Nat) (h : ¬ k < l.length) : joinC c (l.take k) = joinC c l := by
  rw [List.take_of_length_le (by omega)]
end Go.Proofs.YthdpkfddmkijlaaGreatDoor

/- strings.Join with a separator of one byte. -/
namespace Go.Proofs.YthdpkfddmkijlaaGreatDoor
open Go.RowKit

theorem div_big (n : Nat) (h : n ≤ 1000000) (h2 : 2 ≤ n) : ¬ 9223372036854775807 / ((n : Int) - 1) ≤ 1 := by
  have h1 : 0 < (n : Int) - 1 := by omega
  have : 2 ≤ 9223372036854775807 / ((n : Int) - 1) := (Int.le_ediv_iff_mul_le h1).2 (by omega)
  omega
set_option maxHeartbeats 2000000 in
set_option maxRecDepth 100000 in
theorem sjoin_any (l : List ByteArray) (c : UInt8) (A : Option Addr) (cap : Nat) (w : World) (hS : Strs w A l) (hl : l.length ≤ 1000000) (hcap : l.length ≤ cap) (hz : ∀ s ∈ l, s.size ≤ 1000000) :
    Calls Tryz.prog 77 #[.slice A l.length cap, .string ⟨#[c]⟩] w fun e w' => e = .returned (.string (joinC c l)) ∧ Below w.heap.size w w' := by
  go_enter Tryz.func77, Tryz.ntmps77
  by_cases h0 : l.length = 0
  · have he : l = [] := List.eq_nil_of_length_eq_zero h0
    subst he
    have HJ := Lib.hid (joinC_nil c)
    go_wp2_with fail
    go_ret
    exact ⟨ret_str HJ.out.symm, Below.refl _ _⟩
  · by_cases h1 : l.length = 1
    · have hlt : 0 < l.length := by omega
      obtain ⟨b, o, rfl, hcell⟩ := hS 0 hlt
      have hc0 : w.cell? ⟨b, o, none⟩ = some (.string l[0]) := by simpa using hcell
      have HJ : Hid (joinC c l = l[0]) := by
        show _ = _
        match l, h1 with
        | [s], _ => exact joinC_one c s
      have hb0 : ((l.length : Int) == 0) = false := by rw [beq_eq_false_iff_ne]; omega
      have hb1 : ((l.length : Int) == 1) = true := by rw [beq_iff_eq]; omega
      clear hcell h0 h1
      go_wp2_with fail
      go_ret
      exact ⟨ret_str HJ.out.symm, Below.refl _ _⟩
    · have hb0 : ((l.length : Int) == 0) = false := by rw [beq_eq_false_iff_ne]; omega
      have hb1 : ((l.length : Int) == 1) = false := by rw [beq_eq_false_iff_ne]; omega
      have hn2 : 2 ≤ l.length := by omega
      have hdv := div_big l.length hl hn2
      clear h0 h1
      go_wp2_with fail
      go_loop [5, 7, 41] (fun n _ j => ∃ k m : Nat, k ≤ l.length ∧ j = .int .i64 k ∧ n = .int .i64 m ∧ m ≤ 1000000 + k * 1000000) (fun _ _ i => l.length - (intOf i).toNat)
      case atStart => exact ⟨0, l.length - 1, Nat.zero_le _, rfl, by rw [Int.ofNat_sub (by omega)]; rfl, by omega⟩
      case round =>
        obtain ⟨k, m, hk, rfl, rfl, hm⟩ := hrel
        by_cases hlt : k < l.length
        · obtain ⟨b, o, rfl, hcell⟩ := hS k hlt
          have hsz : l[k].size ≤ 1000000 := hz _ (List.getElem_mem hlt)
          go_wp2_with fail
          go_round
          case rel => exact ⟨k + 1, m + l[k].size, hlt, by go_num, by go_num, by omega⟩
          case measure => simp [intOf]; omega
        · have hm2 : m ≤ 281474976710656 := by omega
          obtain ⟨b, o, rfl, hcell⟩ := hS 0 (by omega)
          have hlt0 : 0 < l.length := by omega
          have hsz : l[0].size ≤ 1000000 := hz _ (List.getElem_mem hlt0)
          have hc0 : w.cell? ⟨b, o, none⟩ = some (.string l[0]) := by simpa using hcell
          have hB0 : (w.alloc (.cells #[.pointer none, .slice none 0 0] 96)).heap[w.heap.size]? = some (.cells #[.pointer none, .slice none 0 0] 96 (0, 0)) := heap_alloc_new w _
          have hbw : Below w.heap.size w (w.alloc (.cells #[.pointer none, .slice none 0 0] 96)) := (Below.refl _ _).alloc (Nat.le_refl _) _
          clear hcell hk hm
          go_wp2_with fail
          refine (Tryz.Builder_Grow_fresh w.heap.size w.heap.size m _ (Nat.le_refl _) hB0 hbw.size hm2).mono ?_
          rintro e w1 ⟨rfl, hB1, hb1⟩
          have hbr1 := hbw.trans hb1
          have hc1 : w1.cell? ⟨b, o, none⟩ = some (.string l[0]) := by rw [(bcell hbr1).1 b o (World.block_lt_of_cell? w _ hc0)]; exact hc0
          go_wp2_with fail
          refine (writeString_any _ _ [] l[0] _ (.inr hB1) (by simp; omega) hbr1.size).mono ?_
          rintro e w2 ⟨rfl, hB2, hb2⟩
          have hbr2 := hbr1.trans hb2
          have hB2' : Bld w.heap.size w.heap.size (joinC c (l.take 1)).data.toList w2 := by
            rw [take_one l hlt0, joinC_one]; exact hB2
          clear hB2 hB1 hc1
          go_wp2_with fail
          go_loopw [10, 65] (fun _ j wr => ∃ k : Nat, k + 1 ≤ l.length ∧ j = .int .i64 k ∧ Bld w.heap.size w.heap.size (joinC c (l.take (k + 1))).data.toList wr ∧ Below w.heap.size w wr) (fun _ i _ => l.length - (intOf i).toNat)
          case atStart => exact ⟨0, hlt0, rfl, hB2', hbr2⟩
          case round =>
            obtain ⟨k, hk, rfl, hB3, hbr⟩ := hrel
            have hjs := joinC_size c l 1000000 hz (k + 1) hk
            have hj2 : (joinC c (l.take (k + 1))).size ≤ 1000001000000 := by
              refine Nat.le_trans hjs ?_
              have : (k + 1) * 1000001 ≤ 1000000 * 1000001 := Nat.mul_le_mul_right _ (by omega)
              omega
            have hj3 : (joinC c (l.take (k + 1))).data.toList.length ≤ 1000001000000 := by
              have : (joinC c (l.take (k + 1))).data.toList.length = (joinC c (l.take (k + 1))).size := by simp
              omega
            clear hjs hj2
            by_cases hlt : k + 1 < l.length
            · have HJ := Lib.hid (joinC_snoc c l (k + 1) (by omega) hlt)
              have hsz1 : l[k + 1].size ≤ 1000000 := hz _ (List.getElem_mem hlt)
              have hck : wr.cell? ⟨b, o + 1 + k, none⟩ = some (.string l[k + 1]) := by
                obtain ⟨b', o', e, hck⟩ := (hS.below hbr) (k + 1) hlt
                injection e with e; injection e with e1 e2; subst e1; subst e2
                rw [show o + 1 + k = o + (k + 1) by omega]; exact hck
              have hlt' : (k : Int) < (l.length : Int) - 1 := by omega
              go_wp2_with fail
              refine (writeString_any _ _ _ _ _ hB3 (by have : (⟨#[c]⟩ : ByteArray).size = 1 := rfl; omega) hbr.size).mono ?_
              rintro e w3 ⟨rfl, hB4, hb4⟩
              have hbr4 := hbr.trans hb4
              go_wp2_with fail
              refine (writeString_any _ _ _ _ _ hB4 (by rw [List.length_append]; simp only [List.length_cons, List.length_nil]; omega) hbr4.size).mono ?_
              rintro e w4 ⟨rfl, hB5, hb5⟩
              go_wp2_with fail
              go_roundw
              case rel =>
                refine ⟨k + 1, hlt, by go_num, ?_, hbr4.trans hb5⟩
                rw [HJ.out]
                simpa using hB5
              case measure => simp [intOf]; omega
            · have HE := Lib.hid (joinC_all c l (k + 1) hlt)
              have hlt' : ¬ (k : Int) < (l.length : Int) - 1 := by omega
              go_wp2_with fail
              refine (bldString_any _ _ _ _ hB3 hbr.size).mono ?_
              rintro e w3 ⟨rfl, hb4⟩
              go_wp2_with fail
              go_ret
              exact ⟨ret_str (by rw [HE.out]), hbr.trans hb4⟩
end Go.Proofs.YthdpkfddmkijlaaGreatDoor

/- identityref02.Between. -/
namespace Go.Proofs.YthdpkfddmkijlaaGreatDoor
open Go.RowKit

theorem empty_app (s : ByteArray) : (⟨#[]⟩ : ByteArray) ++ s = s := by apply ByteArray.ext; simp
set_option maxHeartbeats 1000000 in
theorem between_any (l : List ByteArray) (c : UInt8) (A : Option Addr) (cap : Nat) (w : World) (hS : Strs w A l) (hl : l.length ≤ 1000000) (hz : ∀ s ∈ l, s.size ≤ 1000000) :
    Calls Tryz.prog 82 #[.slice A l.length cap, .string ⟨#[c]⟩] w fun e w' => e = .returned (.string (joinC c l)) ∧ Below w.heap.size w w' := by
  go_enter Tryz.func82, Tryz.ntmps82
  go_wp2_with fail
  go_loopw [5, 6] (fun o i wr => ∃ k : Nat, k ≤ l.length ∧ i = .int .i64 k ∧ o = .string (joinC c (l.take k)) ∧ Below w.heap.size w wr) (fun _ i _ => l.length - (intOf i).toNat)
  case atStart => exact ⟨0, Nat.zero_le _, rfl, by rw [joinC_zero], Below.refl _ _⟩
  case round =>
    obtain ⟨k, hk, rfl, rfl, hbr⟩ := hrel
    by_cases hlt : k < l.length
    · obtain ⟨b, o, rfl, hcell⟩ := (hS.below hbr) k hlt
      have hsz : l[k].size ≤ 1000000 := hz _ (List.getElem_mem hlt)
      have hjs := joinC_size c l 1000000 hz k hk
      have hj2 : (joinC c (l.take k)).size ≤ 1000001000000 := by
        refine Nat.le_trans hjs ?_
        have : k * 1000001 ≤ 1000000 * 1000001 := Nat.mul_le_mul_right _ (by omega)
        omega
      by_cases h0 : k = 0
      · subst h0
        have HJ := Lib.hid (joinC_zero c l)
        have HJ1 : Hid (joinC c (l.take 1) = ⟨#[]⟩ ++ l[0]) := by show _ = _; rw [take_one l hlt, joinC_one, empty_app]
        rw [HJ.out]
        clear hjs hj2
        have hc0 : wr.cell? ⟨b, o, none⟩ = some (.string l[0]) := by simpa using hcell
        have s0 : ¬ 9223372036854775807 < l[0].size := by omega
        clear hcell
        go_wp2_with fail
        go_roundw
        case rel => exact ⟨1, hlt, rfl, by rw [HJ1.out], hbr⟩
        case measure => simp [intOf]; omega
      · have HJ := Lib.hid (joinC_snoc c l k (by omega) hlt)
        generalize joinC c (l.take k) = pre at *
        have s1 : ¬ 9223372036854775807 < pre.size + 1 := by omega
        have s2 : ¬ 9223372036854775807 < pre.size + 1 + l[k].size := by omega
        clear hjs
        go_wp2_with fail
        go_roundw
        case rel => exact ⟨k + 1, hlt, by go_num, by rw [HJ.out], hbr⟩
        case measure => simp [intOf]; omega
    · have HE := Lib.hid (joinC_all c l k hlt)
      go_wp2_with fail
      go_ret
      exact ⟨ret_str HE.out, hbr⟩
end Go.Proofs.YthdpkfddmkijlaaGreatDoor

/- codec.Join and its reference compute joinS. -/
namespace Go.Proofs.YthdpkfddmkijlaaGreatDoor
open Go.RowKit

theorem joinS_nil : joinS [] = ⟨#[45]⟩ := rfl
theorem joinS_dash : joinS [⟨#[45]⟩] = ⟨#[37, 50, 68]⟩ := by decide +kernel
theorem map_esc (l : List ByteArray) : (l.map escS).map (·.data.toList) = (l.map (·.data.toList)).map escL := by
  induction l with
  | nil => rfl
  | cons a l ih => simp only [List.map_cons, ih]; rfl
theorem joinS_else (l : List ByteArray) (h0 : l ≠ []) (h1 : l ≠ [⟨#[45]⟩]) : joinS l = joinC 124 (l.map escS) := by
  have e0 : ¬ l.map (·.data.toList) = [] := by simpa using h0
  have e1 : ¬ l.map (·.data.toList) = [[45]] := by
    intro e
    apply h1
    have := congrArg (List.map bsOf) e
    rw [map_bsOf] at this
    exact this
  rw [joinS, joinE, if_neg e0, if_neg e1, joinC, map_esc]
theorem escS_map (l : List ByteArray) (hz : ∀ s ∈ l, s.size ≤ 300000) : ∀ s ∈ l.map escS, s.size ≤ 1000000 := by
  intro s hs
  rw [List.mem_map] at hs
  obtain ⟨t, ht, rfl⟩ := hs
  have := escS_size t
  have := hz t ht
  omega
theorem dash_ne {s : ByteArray} (h : s ≠ ⟨#[45]⟩) : (s.toList == (⟨#[45]⟩ : ByteArray).toList) = false := str_ne h
theorem dash_list : (⟨#[45]⟩ : ByteArray).toList = [45] := by rw [Lib.toList_data]
theorem dash_ne' {s : ByteArray} (h : s ≠ ⟨#[45]⟩) : (s.toList == [45]) = false := by have := str_ne h; rwa [dash_list] at this
theorem one_of {l : List ByteArray} (h : l.length = 1) (h0 : 0 < l.length) : l = [l[0]] := by
  match l, h with
  | [s], _ => rfl

set_option maxHeartbeats 4000000 in
set_option maxRecDepth 100000 in
theorem cjoin_any (l : List ByteArray) (A : Option Addr) (cap : Nat) (w : World) (hS : Strs w A l) (hl : l.length ≤ 1000000) (hz : ∀ s ∈ l, s.size ≤ 300000) :
    Calls Tryz.prog 47 #[.slice A l.length cap] w fun e w' => e = .returned (.string (joinS l)) ∧ Below w.heap.size w w' := by
  have HZ := Lib.hid hz
  clear hz
  obtain ⟨i0, hi, hz0, hz1, hz2⟩ := info_parts Tryz.info_s
  go_enter Tryz.func47, Tryz.ntmps47
  by_cases h0 : l.length = 0
  · have he : l = [] := List.eq_nil_of_length_eq_zero h0
    subst he
    have HJ := Lib.hid joinS_nil
    go_wp2_with fail
    go_ret
    exact ⟨ret_str HJ.out.symm, Below.refl _ _⟩
  · have hlt0 : 0 < l.length := by omega
    have hb0 : ((l.length : Int) == 0) = false := by rw [beq_eq_false_iff_ne]; omega
    obtain ⟨b, o, rfl, hcell⟩ := hS 0 hlt0
    have hc0 : w.cell? ⟨b, o, none⟩ = some (.string l[0]) := by simpa using hcell
    have hcs : (l.length = 1 ∧ l[0] = ⟨#[45]⟩) ∨ (l.length = 1 ∧ l[0] ≠ ⟨#[45]⟩) ∨ l.length ≠ 1 := by
      by_cases h1 : l.length = 1
      · by_cases h2 : l[0] = ⟨#[45]⟩
        · exact .inl ⟨h1, h2⟩
        · exact .inr (.inl ⟨h1, h2⟩)
      · exact .inr (.inr h1)
    clear hcell h0
    rcases hcs with ⟨h1, h2⟩ | hcs
    · have HJ : Hid (joinS l = ⟨#[37, 50, 68]⟩) := by
        show _ = _
        rw [one_of h1 hlt0, h2]; exact joinS_dash
      have hb1 : ((l.length : Int) == 1) = true := by rw [beq_iff_eq]; omega
      rw [h2] at hc0
      clear h1 h2
      go_wp2_with fail
      go_ret
      exact ⟨ret_str HJ.out.symm, Below.refl _ _⟩
    · have HJ : Hid (joinS l = joinC 124 (l.map escS)) := Lib.hid (joinS_else l (by intro e; rw [e] at hlt0; exact absurd hlt0 (by simp)) (by
        intro e
        rcases hcs with ⟨_, h2⟩ | h1
        · exact h2 (by simp [e])
        · exact h1 (by simp [e])))
      obtain ⟨x0, hx0⟩ : ∃ x0, l[0] = x0 := ⟨_, rfl⟩
      rw [hx0] at hcs hc0
      have HX0 := Lib.hid hx0
      clear hx0
      have hcs2 : (((l.length : Int) == 1) = true ∧ (x0.toList == [45]) = false) ∨ ((l.length : Int) == 1) = false := by
        rcases hcs with ⟨h1, h2⟩ | h1
        · exact .inl ⟨by rw [beq_iff_eq]; omega, dash_ne' h2⟩
        · exact .inr (by rw [beq_eq_false_iff_ne]; omega)
      clear hcs
      rcases hcs2 with ⟨hb1, hsd⟩ | hb1
      all_goals
        go_wp2_with (at_make; refine wpList_make_full _ rfl _ _ 33 rfl w.heap.size 9 i0 (.string ByteArray.empty) 1 Tryz.underlying33 hi hz0 hz1 .i64 .i64 _ _ l.length rfl rfl rfl rfl (by rw [hz2]; omega) (by unfold maxLen; omega) (Nat.le_refl _) ?_; intro w1 hown1 hg1)
        have HB1 := Lib.hid ((Below.refl w.heap.size w).grown hg1 (Nat.le_refl _) (by intro k hk; cases hk))
        clear hg1
        go_wp2_with fail
        go_loopw [4, 22] (fun _ i wr => ∃ k : Nat, ∃ xs : List Value, k ≤ l.length ∧ i = .int .i64 k ∧ wr.ownsRow w.heap.size 9 1 (.slice (some ⟨w.heap.size, 0, none⟩) l.length l.length) l.length xs ∧ Below w.heap.size w wr ∧ Done xs (l.map escS) k) (fun _ i _ => l.length - (intOf i).toNat)
        case atStart => exact ⟨0, _, Nat.zero_le _, rfl, hown1, HB1.out, Done.zero _ _⟩
        case round =>
          obtain ⟨k, xs, hk, rfl, hown, hbr, hdone⟩ := hrel
          have HD := Lib.hid hdone
          clear hdone hown1 hc0
          by_cases hlt : k < l.length
          · obtain ⟨b', o', e, hc⟩ := (hS.below hbr) k hlt
            injection e with e; injection e with e1 e2; subst e1; subst e2
            have hlb := World.block_lt_of_cell? wr _ hc
            have hsz : l[k].size ≤ 300000 := HZ.out _ (List.getElem_mem hlt)
            have HX : Hid (xs.length = l.length) := by show _ = _; have := hown.1; omega
            obtain ⟨u, hu⟩ : ∃ u, xs[k]? = some u := ⟨_, List.getElem?_eq_getElem (by rw [HX.out]; exact hlt)⟩
            have HU := Lib.hid hu
            clear hu
            go_wp2_with fail
            refine (esc_any _ _ (by omega)).mono ?_
            rintro e w2 ⟨rfl, hb2⟩
            have hown2 := own_below hown hb2
            have hcell := (hown2.cellAt k (by omega)).trans HU.out
            have hfr := hown2.frozenAt k
            go_wp2_with fail
            have HB2 : Hid (Below w.heap.size w _) := (bthen hbr hb2).setCell (p := ⟨w.heap.size, k, none⟩) (Nat.le_refl _) (.string (escS l[k]))
            have HS := Lib.hid (hown2.stored k (.string (escS l[k])))
            go_roundw
            case rel => exact ⟨k + 1, _, by omega, by go_num, HS.out.1, HB2.out, HD.out.set (by rw [HX.out]; exact hlt) (fun hl => by simp)⟩
            case measure => simp [intOf]; omega
          · have HK : Hid (k = l.length) := by show _ = _; omega
            have HO : Hid (Strs wr (some ⟨w.heap.size, 0, none⟩) (l.map escS)) := Lib.hid (Strs.own hown (by simp) (fun j hj => HD.out j hj (by rw [HK.out]; simpa using hj)))
            have hj := sjoin_any (l.map escS) 124 (some ⟨w.heap.size, 0, none⟩) l.length wr HO.out (by simpa using hl) (by simp) (escS_map l HZ.out)
            rw [List.length_map] at hj
            go_wp2_with fail
            refine hj.mono ?_
            rintro e w3 ⟨rfl, hb3⟩
            go_wp2_with fail
            go_ret
            exact ⟨ret_str HJ.out.symm, bthen hbr hb3⟩
end Go.Proofs.YthdpkfddmkijlaaGreatDoor

/- identityref02.Join computes joinS. -/
namespace Go.Proofs.YthdpkfddmkijlaaGreatDoor
open Go.RowKit

theorem esc_snoc (l : List ByteArray) (k : Nat) (h : k < l.length) : strVs ((l.take k).map escS) ++ [strV (escS l[k])] = strVs ((l.take (k + 1)).map escS) := by
  rw [strVs_snoc, List.take_succ_eq_append_getElem h, List.map_append]; rfl

/-- An own row of strings, read as a list. -/
theorem own_strs {w : World} {base e n : Nat} {v : Value} {xs : List Value} {l : List ByteArray} (h : w.ownsRow base e 1 v n xs) (hn : l.length = n)
    (hx : ∀ j, (h : j < l.length) → xs[j]? = some (.string l[j])) : ∃ A cap, v = .slice A l.length cap ∧ Strs w A l ∧ l.length ≤ cap := by
  rcases h.2 with ⟨rfl, rfl⟩ | ⟨g, cap, cur, rfl, hg, _, hnc, _⟩
  · have : l = [] := List.eq_nil_of_length_eq_zero hn
    subst this
    exact ⟨none, 0, rfl, Strs.nil_ _ _, Nat.le_refl _⟩
  · subst hn
    exact ⟨_, cap, rfl, Strs.own h rfl hx, hnc⟩

set_option maxHeartbeats 4000000 in
set_option maxRecDepth 100000 in
theorem rjoin_any (l : List ByteArray) (A : Option Addr) (cap : Nat) (w : World) (hS : Strs w A l) (hl : l.length ≤ 1000000) (hz : ∀ s ∈ l, s.size ≤ 300000) :
    Calls Tryz.prog 52 #[.slice A l.length cap] w fun e w' => e = .returned (.string (joinS l)) ∧ Below w.heap.size w w' := by
  have HZ := Lib.hid hz
  clear hz
  obtain ⟨i0, hi, hz0, hz1, hz2⟩ := info_parts Tryz.info_s
  go_enter Tryz.func52, Tryz.ntmps52
  by_cases h0 : l.length = 0
  · have he : l = [] := List.eq_nil_of_length_eq_zero h0
    subst he
    have HJ := Lib.hid joinS_nil
    go_wp2_with fail
    go_ret
    exact ⟨ret_str HJ.out.symm, Below.refl _ _⟩
  · have hlt0 : 0 < l.length := by omega
    have hb0 : ((l.length : Int) == 0) = false := by rw [beq_eq_false_iff_ne]; omega
    obtain ⟨b, o, rfl, hcell⟩ := hS 0 hlt0
    have hc0 : w.cell? ⟨b, o, none⟩ = some (.string l[0]) := by simpa using hcell
    have hcs : (l.length = 1 ∧ l[0] = ⟨#[45]⟩) ∨ (l.length = 1 ∧ l[0] ≠ ⟨#[45]⟩) ∨ l.length ≠ 1 := by
      by_cases h1 : l.length = 1
      · by_cases h2 : l[0] = ⟨#[45]⟩
        · exact .inl ⟨h1, h2⟩
        · exact .inr (.inl ⟨h1, h2⟩)
      · exact .inr (.inr h1)
    clear hcell h0
    rcases hcs with ⟨h1, h2⟩ | hcs
    · have HJ : Hid (joinS l = ⟨#[37, 50, 68]⟩) := by
        show _ = _
        rw [one_of h1 hlt0, h2]; exact joinS_dash
      have hb1 : ((l.length : Int) == 1) = true := by rw [beq_iff_eq]; omega
      rw [h2] at hc0
      clear h1 h2
      go_wp2_with fail
      go_ret
      exact ⟨ret_str HJ.out.symm, Below.refl _ _⟩
    · have HJ : Hid (joinS l = joinC 124 (l.map escS)) := Lib.hid (joinS_else l (by intro e; rw [e] at hlt0; exact absurd hlt0 (by simp)) (by
        intro e
        rcases hcs with ⟨_, h2⟩ | h1
        · exact h2 (by simp [e])
        · exact h1 (by simp [e])))
      obtain ⟨x0, hx0⟩ : ∃ x0, l[0] = x0 := ⟨_, rfl⟩
      rw [hx0] at hcs hc0
      have HX0 := Lib.hid hx0
      clear hx0
      have hcs2 : (((l.length : Int) == 1) = true ∧ (x0.toList == [45]) = false) ∨ ((l.length : Int) == 1) = false := by
        rcases hcs with ⟨h1, h2⟩ | h1
        · exact .inl ⟨by rw [beq_iff_eq]; omega, dash_ne' h2⟩
        · exact .inr (by rw [beq_eq_false_iff_ne]; omega)
      clear hcs
      rcases hcs2 with ⟨hb1, hsd⟩ | hb1
      all_goals
        go_wp2_with fail
        go_loopw [3, 4] (fun v i wr => ∃ k : Nat, k ≤ l.length ∧ i = .int .i64 k ∧ wr.ownsRow w.heap.size 9 1 v k (strVs ((l.take k).map escS)) ∧ Below w.heap.size w wr) (fun _ i _ => l.length - (intOf i).toNat)
        case atStart => exact ⟨0, Nat.zero_le _, rfl, World.ownsRow_nil _ _ _ _, Below.refl _ _⟩
        case round =>
          obtain ⟨k, hk, rfl, hown, hbr⟩ := hrel
          clear hc0
          have hgt := hbr.size
          by_cases hlt : k < l.length
          · obtain ⟨b', o', e, hc⟩ := (hS.below hbr) k hlt
            injection e with e; injection e with e1 e2; subst e1; subst e2
            have hlb := World.block_lt_of_cell? wr _ hc
            have hsz : l[k].size ≤ 300000 := HZ.out _ (List.getElem_mem hlt)
            have HL := Lib.hid (esc_snoc l k hlt)
            go_wp2_with fail
            refine (resc_any _ _ (by omega)).mono ?_
            rintro e w2 ⟨rfl, hb2⟩
            have hown2 := own_below hown hb2
            have hbr2 := bthen hbr hb2
            go_wp2_with (at_builtin; refine wpList_append_own _ rfl _ _ 33 rfl w.heap.size 9 i0 (.string ByteArray.empty) 1 16 Tryz.underlying33 hi hz0 hz1 hz2 rfl (by decide) _ _ _ rfl (hown2.alloc _) ⟨w2.heap.size, 0, none⟩ 1 1 [strV (escS l[k])] rfl rfl (cell_one_new _ _ _) (by intro u hu; simp at hu; subst hu; rfl) (by unfold maxLen; omega) (by omega) (by have := hbr2.size; simp; omega) ?_; intro v' w1 hown1 hg1 _)
            have HB : Hid (Below w.heap.size w w1) := Lib.hid ((hbr2.alloc hbr2.size _).grown hg1 (by have := hbr2.size; simp; omega) (fun q hq => (hown2.lt q hq).1))
            have HO : Hid (w1.ownsRow w.heap.size 9 1 v' (k + 1) (strVs ((l.take (k + 1)).map escS))) := by
              show World.ownsRow _ _ _ _ _ _ _
              rw [← HL.out]; exact hown1
            clear hown1 hg1
            go_wp2_with fail
            go_roundw
            case rel => exact ⟨k + 1, by omega, by go_num, HO.out, HB.out⟩
            case measure => simp [intOf]; omega
          · have hK : k = l.length := by omega
            obtain ⟨A2, c2, rfl, hS2, _⟩ := own_strs (l := l.map escS) hown (by simp [hK]) (fun j hj => by
              rw [hK, List.take_of_length_le (Nat.le_refl _)]
              exact strVs_at _ j hj)
            have hj := between_any (l.map escS) 124 A2 c2 wr hS2 (by simpa using hl) (escS_map l HZ.out)
            rw [List.length_map] at hj
            rw [List.length_map]
            clear hS2
            go_wp2_with fail
            refine hj.mono ?_
            rintro e w3 ⟨rfl, hb3⟩
            go_wp2_with fail
            go_ret
            exact ⟨ret_str HJ.out.symm, bthen hbr hb3⟩
end Go.Proofs.YthdpkfddmkijlaaGreatDoor

/- codec.Split and its reference compute splitS, splitErr. -/
namespace Go.Proofs.YthdpkfddmkijlaaGreatDoor
open Go.RowKit

def unAllO : List ByteArray → Option (List ByteArray)
  | [] => some []
  | p :: ps => (unescO p).bind fun a => (unAllO ps).map (a :: ·)
theorem unAllO_eq (l : List (List UInt8)) : (unAll l).map (List.map bsOf) = unAllO (l.map bsOf) := by
  induction l with
  | nil => rfl
  | cons p ps ih =>
    rw [unAll, List.map_cons, unAllO, ← ih]
    show _ = ((unE (bsOf p).data.toList 0).map fun l => (⟨l.toArray⟩ : ByteArray)).bind _
    rw [list_bsOf]
    cases unE p 0 with
    | none => rfl
    | some a =>
      cases unAll ps with
      | none => rfl
      | some r => rfl
theorem splitO_else {s : ByteArray} (h1 : s ≠ ⟨#[45]⟩) (h2 : s ≠ ⟨#[37, 50, 68]⟩) : splitO s = unAllO (cutsS s 124) := by
  have e1 : ¬ s.data.toList = [45] := fun e => h1 (by rw [← bsOf_list s, e]; rfl)
  have e2 : ¬ s.data.toList = [37, 50, 68] := fun e => h2 (by rw [← bsOf_list s, e]; rfl)
  rw [splitO, splitE, if_neg e1, if_neg e2, unAllO_eq]; rfl
theorem splitO_dash : splitO ⟨#[45]⟩ = some [] := rfl
theorem splitO_2d : splitO ⟨#[37, 50, 68]⟩ = some [⟨#[45]⟩] := rfl
theorem split_some {s : ByteArray} {l : List ByteArray} (h : splitO s = some l) : splitS s = l ∧ splitErr s = 0 := by simp [splitS, splitErr, h]
theorem split_none {s : ByteArray} (h : splitO s = none) : splitS s = [] ∧ splitErr s = 4 := by simp [splitS, splitErr, h]
theorem all_none {l U : List ByteArray} {k : Nat} {R : Option (List ByteArray)} (hk : k < l.length) (h : unescO l[k] = none) (HP : (unAllO (l.drop k)).map (U ++ ·) = R) : R = none := by
  rw [List.drop_eq_getElem_cons hk, unAllO, h] at HP
  rw [← HP]; rfl
theorem all_step {l U : List ByteArray} {k : Nat} {t : ByteArray} {R : Option (List ByteArray)} (hk : k < l.length) (h : unescO l[k] = some t) (HP : (unAllO (l.drop k)).map (U ++ ·) = R) : (unAllO (l.drop (k + 1))).map ((U ++ [t]) ++ ·) = R := by
  rw [List.drop_eq_getElem_cons hk, unAllO, h, Option.bind_some] at HP
  rw [← HP]
  cases unAllO (l.drop (k + 1)) <;> simp
theorem all_end {l U : List ByteArray} {k : Nat} {R : Option (List ByteArray)} (hk : ¬ k < l.length) (HP : (unAllO (l.drop k)).map (U ++ ·) = R) : R = some U := by
  rw [List.drop_of_length_le (by omega), unAllO] at HP
  rw [← HP]; simp
theorem unesc_case (s : ByteArray) : (unescO s = none ∧ unescS s = ⟨#[]⟩ ∧ unescE s = 4) ∨ ∃ t, unescO s = some t ∧ unescS s = t ∧ unescE s = 0 := by
  cases h : unescO s with
  | none => exact .inl ⟨rfl, (un_noneO h)⟩
  | some t => exact .inr ⟨t, rfl, un_some h⟩
theorem done_all {xs : List Value} {l : List ByteArray} (hl : xs.length = l.length) (h : Done xs l l.length) : xs = strVs l := by
  apply List.ext_getElem?
  intro j
  by_cases hj : j < l.length
  · rw [h j hj hj, strVs_at l j hj]
  · rw [List.getElem?_eq_none (by omega), List.getElem?_eq_none (by simp [strVs]; omega)]
theorem set_vs {l U : List ByteArray} {k : Nat} (hU : U.length = k) (hk : k < l.length) (t : ByteArray) : (strVs (U ++ l.drop k)).set k (.string t) = strVs ((U ++ [t]) ++ l.drop (k + 1)) := by
  subst hU
  rw [List.drop_eq_getElem_cons hk]
  generalize l.drop (U.length + 1) = R
  generalize l[U.length] = x
  simp [strVs, strV]
theorem at_vs {l U : List ByteArray} {k : Nat} (hU : U.length = k) (hk : k < l.length) : (strVs (U ++ l.drop k))[k]? = some (.string l[k]) := by
  subst hU
  rw [List.drop_eq_getElem_cons hk]
  generalize l.drop (U.length + 1) = R
  generalize l[U.length] = x
  simp [strVs, strV]
theorem cutL_small (c : UInt8) (l : List UInt8) : ∀ p ∈ cutL c l, p.length ≤ l.length := by
  induction l with
  | nil => intro p hp; simp [cutL] at hp; subst hp; simp
  | cons x r ih =>
    intro p hp
    rw [cutL] at hp
    split at hp
    · rw [List.mem_cons] at hp
      rcases hp with rfl | hp
      · simp
      · have := ih p hp; simp; omega
    · cases hc : cutL c r with
      | nil => exact absurd hc (cutL_ne c r)
      | cons q qs =>
        rw [hc] at hp ih
        simp only [List.mem_cons] at hp
        rcases hp with rfl | hp
        · have := ih q (by simp); simp; omega
        · have := ih p (List.mem_cons_of_mem _ hp); simp; omega
theorem cuts_size {s : ByteArray} {c : UInt8} : ∀ p ∈ cutsS s c, p.size ≤ s.size := by
  intro p hp
  rw [cutsS, cutsL, List.mem_map] at hp
  obtain ⟨q, hq, rfl⟩ := hp
  have := cutL_small c s.data.toList q hq
  have e1 : (bsOf q).size = q.length := by simp [bsOf, ByteArray.size]
  have e2 : s.size = s.data.toList.length := by simp
  omega

set_option maxHeartbeats 4000000 in
set_option maxRecDepth 100000 in
theorem csplit_any (s : ByteArray) (w : World) (hs : s.size ≤ 1000000) :
    Calls Tryz.prog 54 #[.string s] w fun e w' => RetStrs2 w.heap.size w' e (splitS s) (splitErr s) ∧ Below w.heap.size w w' := by
  go_enter Tryz.func54, Tryz.ntmps54
  by_cases h1 : s = ⟨#[45]⟩
  · subst h1
    have hG := Lib.hid (split_some splitO_dash)
    go_wp2_with fail
    go_ret2
    exact ⟨⟨none, 0, by rw [hG.out.1, hG.out.2]; rfl, by rw [hG.out.1]; exact Strs.nil_ _ _, (fun p h => by cases h), by rw [hG.out.1]; exact Nat.le_refl _⟩, Below.refl _ _⟩
  · have hd1 := dash_ne' h1
    by_cases h2 : s = ⟨#[37, 50, 68]⟩
    · subst h2
      have hG := Lib.hid (split_some splitO_2d)
      clear hd1 h1
      go_wp2_with fail
      go_ret2
      refine ⟨⟨some ⟨w.heap.size, 0, none⟩, 1, by rw [hG.out.1, hG.out.2]; rfl, ?_, (fun p h => by cases h; exact Nat.le_refl _), by rw [hG.out.1]; exact Nat.le_refl _⟩, (Below.refl _ _).alloc (Nat.le_refl _) _⟩
      rw [hG.out.1]
      intro i hi
      have hi0 : i = 0 := by simpa using hi
      subst hi0
      exact ⟨w.heap.size, 0, rfl, by simp [go_sem]⟩
    · have hd2 : (s.toList == [37, 50, 68]) = false := by
        have := str_ne h2
        rwa [show (⟨#[37, 50, 68]⟩ : ByteArray).toList = [37, 50, 68] by rw [Lib.toList_data]] at this
      have HO := Lib.hid (splitO_else h1 h2)
      clear h1 h2
      have hle := cutsS_le s 124
      have HZ := Lib.hid (cuts_size (s := s) (c := 124))
      go_wp2_with fail
      refine (ssplit_any s 124 w (by omega)).mono ?_
      rintro e w1 ⟨xs, cap, rfl, hc1, hown1, hD1, hb1⟩
      have hx := done_all (by have := hown1.1; omega) hD1
      clear hD1
      subst hx
      obtain ⟨N, hN⟩ : ∃ N, (cutsS s 124).length = N := ⟨_, rfl⟩
      rw [hN] at hc1 hown1 hle
      have HN := Lib.hid hN
      rw [hN]
      clear hN
      go_wp2_with fail
      go_loopw [5, 6, 7, 8, 18] (fun _ _ _ _ j wr => ∃ (k : Nat) (U : List ByteArray), k ≤ N ∧ j = .int .i64 k ∧ U.length = k ∧ wr.ownsRow w.heap.size 9 1 (.slice (some ⟨w.heap.size, 0, none⟩) N cap) N (strVs (U ++ (cutsS s 124).drop k)) ∧ Hid ((unAllO ((cutsS s 124).drop k)).map (U ++ ·) = splitO s) ∧ Below w.heap.size w wr) (fun _ _ _ _ i _ => N - (intOf i).toNat)
      case atStart => exact ⟨0, [], Nat.zero_le _, rfl, rfl, by simpa using hown1, Lib.hid (by rw [HO.out]; simp), hb1⟩
      case round =>
        clear hown1
        obtain ⟨k, U, hk, rfl, hU, hown, HP, hbr⟩ := hrel
        by_cases hlt : k < N
        · have hlt2 : k < (cutsS s 124).length := by rw [HN.out]; exact hlt
          have hcell := (hown.cellAt k (by omega)).trans (at_vs hU hlt2)
          have hfr := hown.frozenAt k
          have hsz := HZ.out _ (List.getElem_mem hlt2)
          have HA : Hid (unescO (cutsS s 124)[k] = none → splitO s = none) := Lib.hid (fun h => all_none hlt2 h HP.out)
          have HB : Hid (∀ t, unescO (cutsS s 124)[k] = some t → (unAllO ((cutsS s 124).drop (k + 1))).map ((U ++ [t]) ++ ·) = splitO s) := Lib.hid (fun t h => all_step hlt2 h HP.out)
          have HU := Lib.hid hU
          have HL2 := Lib.hid hlt2
          generalize (cutsS s 124)[k] = x at hcell hsz HA HB
          have hun := unesc_any x wr (by omega)
          rcases unesc_case x with ⟨hx1, hx2, hx3⟩ | ⟨t, hx1, hx2, hx3⟩
          · rw [hx2, hx3] at hun
            have hG := Lib.hid (split_none (HA.out hx1))
            clear hx1 hx2 hx3 hU hlt2
            go_wp2_with fail
            refine hun.mono ?_
            rintro e w2 ⟨rfl, hb2⟩
            go_wp2_with fail
            go_ret2
            exact ⟨⟨none, 0, by rw [hG.out.1, hG.out.2]; rfl, by rw [hG.out.1]; exact Strs.nil_ _ _, (fun p h => by cases h), by rw [hG.out.1]; exact Nat.le_refl _⟩, bthen hbr hb2⟩
          · rw [hx2, hx3] at hun
            have HP1 := Lib.hid (HB.out t hx1)
            clear hx1 hx2 hx3 hU hlt2
            go_wp2_with fail
            refine hun.mono ?_
            rintro e w2 ⟨rfl, hb2⟩
            have hown2 := own_below hown hb2
            have hcell2 := (hown2.cellAt k (by omega)).trans (at_vs HU.out HL2.out)
            have hfr2 := hown2.frozenAt k
            clear hcell hfr
            go_wp2_with fail
            have HS := (hown2.stored k (.string t)).1
            rw [set_vs HU.out HL2.out] at HS
            go_roundw
            case rel => exact ⟨k + 1, U ++ [t], hlt, by go_num, by rw [List.length_append, HU.out]; rfl, HS, HP1, (bthen hbr hb2).setCell (p := ⟨w.heap.size, k, none⟩) (Nat.le_refl _) _⟩
            case measure => simp [intOf]; omega
        · have hkN : k = N := by omega
          have hG := Lib.hid (split_some (all_end (by rw [HN.out]; exact hlt) HP.out))
          have hdr : (cutsS s 124).drop k = [] := List.drop_of_length_le (by rw [HN.out]; omega)
          rw [hdr, List.append_nil] at hown
          clear hdr
          go_wp2_with fail
          go_ret2
          refine ⟨?_, hbr⟩
          rw [hG.out.1, hG.out.2]
          exact RetStrs2.own hown (hU.trans hkN) (strVs_at U)
end Go.Proofs.YthdpkfddmkijlaaGreatDoor

/- Plain: how long the forms of lists are. -/
namespace Go.Proofs.YthdpkfddmkijlaaGreatDoor
open Go.RowKit

theorem escL_ge (l : List UInt8) : l.length ≤ (escL l).length := by
  have h : unescO (escS ⟨l.toArray⟩) = some ⟨l.toArray⟩ := unesc_esc _
  have := unescO_size h
  have e1 : (⟨l.toArray⟩ : ByteArray).size = l.length := by show l.toArray.size = _; simp
  have e2 : (escS ⟨l.toArray⟩).size = (escL l).length := by show (escL _).toArray.size = _; simp
  omega
theorem escL_le (l : List UInt8) : (escL l).length ≤ 3 * l.length := by
  have := escS_size ⟨l.toArray⟩
  have e1 : (⟨l.toArray⟩ : ByteArray).size = l.length := by show l.toArray.size = _; simp
  have e2 : (escS ⟨l.toArray⟩).size = (escL l).length := by show (escL _).toArray.size = _; simp
  omega
theorem joinL_one (c : UInt8) (p : List UInt8) : joinL c [p] = p := rfl
theorem joinL_le (c : UInt8) (B : Nat) : ∀ ps : List (List UInt8), (∀ p ∈ ps, p.length ≤ B) → (joinL c ps).length ≤ ps.length * (B + 1)
  | [], _ => by simp [joinL]
  | p :: ps, h => by
    have hp := h p (by simp)
    by_cases hn : ps = []
    · subst hn; rw [joinL_one]; simp; omega
    · rw [joinL_cons c p ps hn]
      have ih := joinL_le c B ps (fun q hq => h q (List.mem_cons_of_mem _ hq))
      simp only [List.length_append, List.length_cons]
      rw [Nat.add_mul]; omega
theorem joinL_ge (c : UInt8) : ∀ ps : List (List UInt8), ps.length ≤ (joinL c ps).length + 1 ∧ ∀ p ∈ ps, p.length ≤ (joinL c ps).length
  | [] => by simp
  | p :: ps => by
    by_cases hn : ps = []
    · subst hn; rw [joinL_one]; simp
    · rw [joinL_cons c p ps hn]
      have ih := joinL_ge c ps
      refine ⟨by simp; omega, fun q hq => ?_⟩
      rw [List.mem_cons] at hq
      rcases hq with rfl | hq
      · simp
      · have := ih.2 q hq
        simp; omega
theorem bs_len (l : List UInt8) : (bsOf l).size = l.length := by show l.toArray.size = _; simp
theorem joinS_le (l : List ByteArray) (B : Nat) (h : ∀ s ∈ l, s.size ≤ B) : (joinS l).size ≤ 3 + l.length * (3 * B + 1) := by
  by_cases h0 : l = []
  · subst h0; rw [joinS_nil]; show 1 ≤ _; omega
  by_cases h1 : l = [⟨#[45]⟩]
  · subst h1; rw [joinS_dash]; show 3 ≤ _; omega
  rw [joinS_else l h0 h1, joinC, bs_len]
  have := joinL_le 124 (3 * B) ((l.map escS).map (·.data.toList)) (fun p hp => by
    simp only [List.mem_map] at hp
    obtain ⟨_, ⟨s, hs, rfl⟩, rfl⟩ := hp
    have h2 := escS_size s
    have h3 := h s hs
    have e : (escS s).data.toList.length = (escS s).size := by simp
    omega)
  simp only [List.length_map] at this
  omega
theorem split_len {s : ByteArray} {l : List ByteArray} (h : splitO s = some l) : l.length ≤ s.size + 1 ∧ ∀ t ∈ l, t.size ≤ s.size + 1 := by
  have hj := join_splitS h
  by_cases h0 : l = []
  · subst h0; simp
  by_cases h1 : l = [⟨#[45]⟩]
  · subst h1; refine ⟨by simp, fun t ht => ?_⟩
    rw [List.mem_singleton] at ht; subst ht; show 1 ≤ _; omega
  rw [joinS_else l h0 h1, joinC] at hj
  have hz : s.size = (joinL 124 ((l.map escS).map (·.data.toList))).length := by rw [← hj, bs_len]
  obtain ⟨g1, g2⟩ := joinL_ge 124 ((l.map escS).map (·.data.toList))
  simp only [List.length_map] at g1
  refine ⟨by omega, fun t ht => ?_⟩
  have := g2 (escS t).data.toList (by simp only [List.mem_map]; exact ⟨_, ⟨t, ht, rfl⟩, rfl⟩)
  have h3 : t.size ≤ (escS t).size := unescO_size (unesc_esc t)
  have e : (escS t).data.toList.length = (escS t).size := by simp
  omega
end Go.Proofs.YthdpkfddmkijlaaGreatDoor

