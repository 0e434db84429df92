/- Joined: ClmRDecode, TokRVer, TokRLeft, TokPeek, TokForge. -/
import Derived.Test.YtiiioefjdebggaaGreatDoorSeg18
import Derived.Test.YtiiioefjdebggaaGreatDoorSeg10
import Derived.Test.YtiiioefjdebggaaGreatDoorSeg8
import Derived.Test.YtiiioefjdebggaaGreatDoorSeg3
import Derived.StillTailTactics
import Derived.Test.YtiiioefjdebggaaGreatDoorSeg13
import Derived.Test.YtiiioefjdebggaaGreatDoorSeg6
import Derived.Test.YtiiioefjdebggaaGreatDoorSeg11
import Derived.Deep.QuietTactic
import Derived.BigQuiet
import Derived.Deep.RegionHeld3
import Derived.Deep.RegionLaw
import Derived.Test.YtiiioefjdebggaaGreatDoorSeg5
/- The reference's Decode. -/
namespace Go.Proofs.YtiiioefjdebggaaGreatDoor
open Go.RowKit

def tS (f : Nat → ByteArray) (k : Nat) : List Value := strVs ((List.range k).map fun i => unescS (f i))
def nS (f : Nat → ByteArray) (k : Nat) : List Value := (List.range k).map fun i => Value.int .i64 (readIntP (f (11 + i))).1
theorem tS_next (f : Nat → ByteArray) (k : Nat) : tS f (k + 1) = tS f k ++ [strV (unescS (f k))] := by
  rw [tS, List.range_succ, List.map_append, tS, List.map_singleton, strVs_snoc]
theorem nS_next (f : Nat → ByteArray) (k : Nat) : nS f (k + 1) = nS f k ++ [Value.int .i64 (readIntP (f (11 + k))).1] := by
  rw [nS, List.range_succ, List.map_append, nS]; rfl
theorem vals_at {w : World} {A : Option Addr} {vs : List ByteArray} (h : Strs w A vs) (hl : vs.length = 16) (i : Nat) (hi : i < 16) : ∃ b o, A = some ⟨b, o, none⟩ ∧ w.cell? ⟨b, o + i, none⟩ = some (.string (valsR vs i)) := by
  obtain ⟨b, o, e, hc⟩ := h i (by omega)
  refine ⟨b, o, e, ?_⟩
  rw [hc, valsR, List.getD_eq_getElem?_getD, List.getElem?_eq_getElem (by omega), Option.getD_some]
theorem info_i : (Tryz.prog.info? 3).map (fun i => (i.zero, i.size, i.bytes)) = some (some (.int .i64 0), 1, 8) := by kernel_rfl
set_option maxHeartbeats 16000000 in
set_option maxRecDepth 100000 in
theorem rdecode25_any (s : ByteArray) (w : World) (hs : s.size ≤ 1000000000) :
    Calls Tryz.prog 51 #[.string s] w fun e w' => RetDec25 s e w' ∧ Below w.heap.size w w' := by
  obtain ⟨i0, hi, hz0, hz1, hz2⟩ := info_parts Tryz.info_s
  obtain ⟨i1, hj, hy0, hy1, hy2⟩ := info_parts info_i
  have B1 : Hid (Below w.heap.size w (w.alloc (clO cl0 p30))) := Lib.hid ((Below.refl _ _).alloc (Nat.le_refl _) _)
  have X1 : Hid (ClBox (w.alloc (clO cl0 p30)) w.heap.size cl0 p30) := Lib.hid (ClBox.new w cl0 p30)
  by_cases h1 : 4096 < s.size
  · have HN : Hid (decE s = 3 ∧ ∀ c, ¬ IsDec s c) := Lib.hid ⟨by rw [decE, if_pos h1], fun c hc => by have := hc.2.2; omega⟩
    go_enter Tryz.func51, Tryz.ntmps51
    go_wp2_with (first | (refine alloc_cl rfl _ rfl rfl ?_) | (refine build_cl rfl _ rfl rfl ?_) | (refine store_cl rfl _ rfl _ _ rfl w.heap.size rfl cl0 p30 rfl cl0 p30 X1 ?_) | fail)
    refine bodyPost_ret (v := .tuple #[clV cl0 p30, .int .i64 3]) (res_cl Tryz.results51 _ _ w.heap.size cl0 p30 _ rfl (X1.out.set) rfl) rfl ⟨.inr ⟨by rw [HN.out.1], HN.out.2⟩, ?_⟩
    exact below_setRow B1.out (Nat.le_refl _) _
  · have HS4 : Hid (s.size ≤ 4096) := Lib.hid (by omega)
    have HD4 : Hid (decE s = 4) := Lib.hid (by rw [decE, if_neg h1])
    have HIR := Lib.hid (fun c (h : IsDec s c) => isDec_r h)
    go_enter Tryz.func51, Tryz.ntmps51
    go_wp2_with (first | (refine alloc_cl rfl _ rfl rfl ?_) | fail)
    refine (rsplit25_any s _ (by omega)).mono ?_
    rintro e w1 ⟨⟨vs, A, cap, rfl, hs1, hsp⟩ | ⟨v, rfl, hsp⟩, hb1⟩
    · have B2 := Lib.hid (bthen B1.out hb1)
      have X2 := Lib.hid (X1.out.below hb1)
      have hz : w.heap.size < w1.heap.size := by have := hb1.size; simp at this; omega
      have HLEN := Lib.hid (spl_len keysS _ vs hsp)
      have HSP := Lib.hid hsp
      have hvl : vs.length = 16 := HLEN.out.1
      have HVZ : Hid (∀ i, (valsR vs i).size ≤ 5000) := Lib.hid (fun i => by
        rw [valsR, List.getD_eq_getElem?_getD]
        cases h : vs[i]? with
        | none => show (0 : Nat) ≤ _; omega
        | some t =>
          have h2 := HLEN.out.2 t (List.mem_of_getElem? h)
          have h3 : s.data.toList.length = s.size := by simp
          have := HS4.out
          show t.size ≤ _
          omega)
      have VA : Hid (∀ W, Below w1.heap.size w1 W → ∀ i, i < 16 → ∃ b o, A = some ⟨b, o, none⟩ ∧ W.cell? ⟨b, o + i, none⟩ = some (.string (valsR vs i))) := Lib.hid (fun W hb i hi => vals_at (hs1.below hb) hvl i hi)
      clear hs1 hsp hb1 B1 X1
      obtain ⟨b, o, rfl, _⟩ := VA.out w1 (Below.refl _ _) 0 (by omega)
      have VC : Hid (∀ W, Below w1.heap.size w1 W → ∀ i, i < 16 → W.cell? ⟨b, o + i, none⟩ = some (.string (valsR vs i))) := Lib.hid (fun W hb i hi => by
        obtain ⟨b', o', e, hc⟩ := VA.out W hb i hi
        injection e with e
        injection e with e1 e2
        subst e1; subst e2
        exact hc)
      have HVL := Lib.hid hvl
      rw [hvl]
      clear VA hvl
      obtain ⟨f, HF⟩ : ∃ f, Hid (valsR vs = f) := ⟨_, Lib.hid rfl⟩
      rw [HF.out] at HVZ VC
      go_wp2_with fail
      go_loopw [6, 7] (fun v i wr => ∃ k : Nat, k ≤ 8 ∧ i = .int .i64 k ∧ Hid (wr.ownsRow w1.heap.size 9 1 v k (tS f k)) ∧ Hid (Below w1.heap.size w1 wr)) (fun _ i _ => 8 - (intOf i).toNat)
      case atStart => exact ⟨0, Nat.zero_le _, rfl, Lib.hid (World.ownsRow_nil _ _ _ _), Lib.hid (Below.refl _ _)⟩
      case round =>
        obtain ⟨k, hk, rfl, OR, BR⟩ := hrel
        by_cases hlt : k < 8
        · have hc := VC.out wr BR.out k (by omega)
          have hxz := HVZ.out k
          have HTN := Lib.hid (tS_next f k)
          obtain ⟨x, HX⟩ : ∃ x, Hid (f k = x) := ⟨_, Lib.hid rfl⟩
          rw [HX.out] at hc hxz HTN
          obtain ⟨y, HY⟩ : ∃ y, Hid (unescS x = y) := ⟨_, Lib.hid rfl⟩
          obtain ⟨ye, HYE⟩ : ∃ y, Hid (unescE x = y) := ⟨_, Lib.hid rfl⟩
          rw [HY.out] at HTN
          have f1 : (0 : Int) ≤ (k : Int) := by omega
          have f2 : (k : Int) < 16 := by omega
          go_wp2_with fail
          refine (runesc_any x _ (by omega)).mono ?_
          rintro e w3 ⟨rfl, hb3⟩
          rw [HY.out, HYE.out]
          have B3 := Lib.hid (bthen BR.out hb3)
          have O3 := Lib.hid (own_below OR.out hb3)
          clear hb3 hc
          go_wp2_with (first
            | (at_builtin; refine wpList_append_own _ rfl _ _ 23 rfl w1.heap.size 9 i0 (.string ByteArray.empty) 1 16 Tryz.underlying23 hi hz0 hz1 hz2 rfl (by decide) _ _ _ rfl (O3.out.alloc _) ⟨w3.heap.size, 0, none⟩ 1 1 [strV y] rfl rfl (cell_one_new _ _ _) (by intro u hu; simp at hu; subst hu; rfl) (by unfold maxLen; omega) (by omega) (by have := B3.out.size; simp; omega) ?_; intro v' w4 hown4 hg4 _)
            | fail)
          have B4 : Hid (Below w1.heap.size w1 w4) := Lib.hid ((B3.out.alloc B3.out.size _).grown hg4 (by have := B3.out.size; simp; omega) (fun q hq => (O3.out.lt q hq).1))
          have O4 : Hid (w4.ownsRow w1.heap.size 9 1 v' (k + 1) (tS f (k + 1))) := Lib.hid (by show World.ownsRow _ _ _ _ _ _ _; rw [HTN.out]; exact hown4)
          clear hown4 hg4
          go_wp2_with fail
          go_roundw
          case rel => exact ⟨k + 1, hlt, by go_num, O4, B4⟩
          case measure => simp [intOf]; omega
        · obtain rfl : k = 8 := by omega
          clear hlt
          have hc8 := VC.out wr BR.out 8 (by omega)
          have hxz8 := HVZ.out 8
          go_wp2_with fail
          refine (rsplit_any (f 8) _ (by omega)).mono ?_
          rintro e w5 ⟨⟨A5, c5, rfl, hs5, hf5, hl5⟩, hb5⟩
          have F5 : Hid (∀ q, A5 = some q → q.block ≠ w.heap.size) := Lib.hid (fun q hq => by have := hf5 q hq; have := BR.out.size; omega)
          clear hf5
          have B5 := Lib.hid (bthen BR.out hb5)
          have O5 := Lib.hid (own_below OR.out hb5)
          have S5 := Lib.hid hs5
          have L5 := Lib.hid hl5
          clear hb5 hs5 hl5 hc8 hxz8
          have hc9 := VC.out w5 B5.out 9 (by omega)
          have hxz9 := HVZ.out 9
          go_wp2_with fail
          refine (rsplit_any (f 9) _ (by omega)).mono ?_
          rintro e w6 ⟨⟨A6, c6, rfl, hs6, hf6, hl6⟩, hb6⟩
          have F6 : Hid (∀ q, A6 = some q → q.block ≠ w.heap.size) := Lib.hid (fun q hq => by have := hf6 q hq; have := B5.out.size; omega)
          clear hf6
          have B6 := Lib.hid (bthen B5.out hb6)
          have O6 := Lib.hid (own_below O5.out hb6)
          have S6 := Lib.hid (And.intro (S5.out.below hb6) hs6)
          have L6 := Lib.hid hl6
          clear hb6 hs6 hl6 hc9 hxz9 S5 O5 B5 OR BR
          have hc10 := VC.out w6 B6.out 10 (by omega)
          have hxz10 := HVZ.out 10
          go_wp2_with fail
          refine (rsplit_any (f 10) _ (by omega)).mono ?_
          rintro e w8 ⟨⟨A7, c7, rfl, hs7, hf7, hl7⟩, hb7⟩
          have F7 : Hid (∀ q, A7 = some q → q.block ≠ w.heap.size) := Lib.hid (fun q hq => by have := hf7 q hq; have := B6.out.size; omega)
          clear hf7
          have B7 := Lib.hid (bthen B6.out hb7)
          have O7 := Lib.hid (own_below O6.out hb7)
          have S7 : Hid (Strs w8 A5 (splitS (f 8)) ∧ Strs w8 A6 (splitS (f 9)) ∧ Strs w8 A7 (splitS (f 10))) := Lib.hid ⟨S6.out.1.below hb7, S6.out.2.below hb7, hs7⟩
          have L7 := Lib.hid hl7
          clear hb7 hs7 hl7 hc10 hxz10 S6 O6 B6
          obtain ⟨l5, HL5⟩ : ∃ l, Hid ((splitS (f 8)).length = l) := ⟨_, Lib.hid rfl⟩
          obtain ⟨l6, HL6⟩ : ∃ l, Hid ((splitS (f 9)).length = l) := ⟨_, Lib.hid rfl⟩
          obtain ⟨l7, HL7⟩ : ∃ l, Hid ((splitS (f 10)).length = l) := ⟨_, Lib.hid rfl⟩
          obtain ⟨e5, HE5⟩ : ∃ l, Hid (splitErr (f 8) = l) := ⟨_, Lib.hid rfl⟩
          obtain ⟨e6, HE6⟩ : ∃ l, Hid (splitErr (f 9) = l) := ⟨_, Lib.hid rfl⟩
          obtain ⟨e7, HE7⟩ : ∃ l, Hid (splitErr (f 10) = l) := ⟨_, Lib.hid rfl⟩
          rw [HL5.out, HL6.out, HL7.out, HE5.out, HE6.out, HE7.out]
          go_wp2_with fail
          go_loopw [16, 17] (fun v i wr => ∃ k : Nat, k ≤ 5 ∧ i = .int .i64 (11 + (k : Int)) ∧ Hid (wr.ownsRow w8.heap.size 3 1 v k (nS f k)) ∧ Hid (Below w8.heap.size w8 wr)) (fun _ i _ => 16 - (intOf i).toNat)
          case atStart => exact ⟨0, Nat.zero_le _, rfl, Lib.hid (World.ownsRow_nil _ _ _ _), Lib.hid (Below.refl _ _)⟩
          case round =>
            obtain ⟨k, hk, rfl, OR, BR⟩ := hrel
            by_cases hlt : k < 5
            · have hc := VC.out wr (bthen B7.out BR.out) (11 + k) (by omega)
              have hxz := HVZ.out (11 + k)
              have HTN := Lib.hid (nS_next f k)
              obtain ⟨x, HX⟩ : ∃ x, Hid (f (11 + k) = x) := ⟨_, Lib.hid rfl⟩
              rw [HX.out] at hc hxz HTN
              obtain ⟨y, HY⟩ : ∃ y, Hid ((readIntP x).1 = y) := ⟨_, Lib.hid rfl⟩
              obtain ⟨ye, HYE⟩ : ∃ y, Hid ((readIntP x).2 = y) := ⟨_, Lib.hid rfl⟩
              rw [HY.out] at HTN
              have f0 : (0 : Int) ≤ (k : Int) := by omega
              have f1 : (0 : Int) ≤ 11 + (k : Int) := by omega
              have f2 : 11 + (k : Int) < 16 := by omega
              have f3 : (11 + (k : Int)).toNat = 11 + k := by omega
              go_wp2_with fail
              refine (rreadint_any x _ (by omega)).mono ?_
              rintro e w3 ⟨rfl, hb3⟩
              rw [HY.out, HYE.out]
              have B3 := Lib.hid (bthen BR.out hb3)
              have O3 := Lib.hid (own_below OR.out hb3)
              clear hb3 hc
              go_wp2_with (first
                | (at_builtin; refine wpList_append_own _ rfl _ _ 112 rfl w8.heap.size 3 i1 (.int .i64 0) 1 8 Tryz.underlying112 hj hy0 hy1 hy2 rfl (by decide) _ _ _ rfl (O3.out.alloc _) ⟨w3.heap.size, 0, none⟩ 1 1 [Value.int .i64 y] rfl rfl (cell_one_new _ _ _) (by intro u hu; simp at hu; subst hu; rfl) (by unfold maxLen; omega) (by omega) (by have := B3.out.size; simp; omega) ?_; intro v' w4 hown4 hg4 _)
                | fail)
              have B4 : Hid (Below w8.heap.size w8 w4) := Lib.hid ((B3.out.alloc B3.out.size _).grown hg4 (by have := B3.out.size; simp; omega) (fun q hq => (O3.out.lt q hq).1))
              have O4 : Hid (w4.ownsRow w8.heap.size 3 1 v' (k + 1) (nS f (k + 1))) := Lib.hid (by show World.ownsRow _ _ _ _ _ _ _; rw [HTN.out]; exact hown4)
              clear hown4 hg4
              go_wp2_with fail
              go_roundw
              case rel => exact ⟨k + 1, hlt, by (first | go_num | (congr 1; omega)), O4, B4⟩
              case measure => simp [intOf]; omega
            · obtain rfl : k = 5 := by omega
              clear hlt
              have O8 := Lib.hid (own_below O7.out BR.out)
              obtain ⟨tb, tc, rfl, htc⟩ : ∃ g c, u6 = .slice (some ⟨g, 0, none⟩) 8 c ∧ 8 ≤ c := by
                rcases O8.out.2 with ⟨_, h0⟩ | ⟨g, cap, cur, e, _, _, hnc, _⟩
                · omega
                · exact ⟨g, cap, e, hnc⟩
              obtain ⟨nb, nc, rfl, hnc⟩ : ∃ g c, u16 = .slice (some ⟨g, 0, none⟩) 5 c ∧ 5 ≤ c := by
                rcases OR.out.2 with ⟨_, h0⟩ | ⟨g, cap, cur, e, _, _, hnc, _⟩
                · omega
                · exact ⟨g, cap, e, hnc⟩
              have t0 : wr.cell? ⟨tb, 0, none⟩ = some (.string (unescS (f 0))) := (O8.out.cellAt 0 (by omega)).trans rfl
              have t1 : wr.cell? ⟨tb, 1, none⟩ = some (.string (unescS (f 1))) := (O8.out.cellAt 1 (by omega)).trans rfl
              have t2 : wr.cell? ⟨tb, 2, none⟩ = some (.string (unescS (f 2))) := (O8.out.cellAt 2 (by omega)).trans rfl
              have t3 : wr.cell? ⟨tb, 3, none⟩ = some (.string (unescS (f 3))) := (O8.out.cellAt 3 (by omega)).trans rfl
              have t4 : wr.cell? ⟨tb, 4, none⟩ = some (.string (unescS (f 4))) := (O8.out.cellAt 4 (by omega)).trans rfl
              have t5 : wr.cell? ⟨tb, 5, none⟩ = some (.string (unescS (f 5))) := (O8.out.cellAt 5 (by omega)).trans rfl
              have t6 : wr.cell? ⟨tb, 6, none⟩ = some (.string (unescS (f 6))) := (O8.out.cellAt 6 (by omega)).trans rfl
              have t7 : wr.cell? ⟨tb, 7, none⟩ = some (.string (unescS (f 7))) := (O8.out.cellAt 7 (by omega)).trans rfl
              have n0 : wr.cell? ⟨nb, 0, none⟩ = some (.int .i64 (readIntP (f 11)).1) := (OR.out.cellAt 0 (by omega)).trans rfl
              have n1 : wr.cell? ⟨nb, 1, none⟩ = some (.int .i64 (readIntP (f 12)).1) := (OR.out.cellAt 1 (by omega)).trans rfl
              have n2 : wr.cell? ⟨nb, 2, none⟩ = some (.int .i64 (readIntP (f 13)).1) := (OR.out.cellAt 2 (by omega)).trans rfl
              have n3 : wr.cell? ⟨nb, 3, none⟩ = some (.int .i64 (readIntP (f 14)).1) := (OR.out.cellAt 3 (by omega)).trans rfl
              have n4 : wr.cell? ⟨nb, 4, none⟩ = some (.int .i64 (readIntP (f 15)).1) := (OR.out.cellAt 4 (by omega)).trans rfl
              go_wp2_with fail
              go_region_held3 (fun w' => w'.cell? ⟨tb, 0, none⟩ = some (.string (unescS (f 0))) ∧ w'.cell? ⟨tb, 1, none⟩ = some (.string (unescS (f 1))) ∧ w'.cell? ⟨tb, 2, none⟩ = some (.string (unescS (f 2))) ∧ w'.cell? ⟨tb, 3, none⟩ = some (.string (unescS (f 3))) ∧ w'.cell? ⟨tb, 4, none⟩ = some (.string (unescS (f 4))) ∧ w'.cell? ⟨tb, 5, none⟩ = some (.string (unescS (f 5))) ∧ w'.cell? ⟨tb, 6, none⟩ = some (.string (unescS (f 6))) ∧ w'.cell? ⟨tb, 7, none⟩ = some (.string (unescS (f 7))) ∧ w'.cell? ⟨nb, 0, none⟩ = some (.int .i64 (readIntP (f 11)).1) ∧ w'.cell? ⟨nb, 1, none⟩ = some (.int .i64 (readIntP (f 12)).1) ∧ w'.cell? ⟨nb, 2, none⟩ = some (.int .i64 (readIntP (f 13)).1) ∧ w'.cell? ⟨nb, 3, none⟩ = some (.int .i64 (readIntP (f 14)).1) ∧ w'.cell? ⟨nb, 4, none⟩ = some (.int .i64 (readIntP (f 15)).1))
                (first | go_keep)
                (first | fail)
              clear t0 t1 t2 t3 t4 t5 t6 t7 n0 n1 n2 n3 n4
              have HOB : Hid (clO (decC f) ⟨A5, c5, A6, c6, A7, c7⟩ = Obj.cells #[.string (unescS (f 0)), .string (unescS (f 1)), .string (unescS (f 2)), .string (unescS (f 3)), .string (unescS (f 4)), .string (unescS (f 5)), .string (unescS (f 6)), .string (unescS (f 7)), .slice A5 l5 c5, .slice A6 l6 c6, .slice A7 l7 c7, .int .i64 (readIntP (f 11)).1, .int .i64 (readIntP (f 12)).1, .int .i64 (readIntP (f 13)).1, .int .i64 (readIntP (f 14)).1, .int .i64 (readIntP (f 15)).1] 25 (0, 0)) := Lib.hid (by rw [← HL5.out, ← HL6.out, ← HL7.out]; rfl)
              rw [← HOB.out]
              have HIN : Hid (ClIn (decC f) ⟨A5, c5, A6, c6, A7, c7⟩) := Lib.hid (decC_in HVZ.out L5.out L6.out L7.out)
              have HAT : Hid (ClAt ((wr.alloc (clO (decC f) ⟨A5, c5, A6, c6, A7, c7⟩)).drew) (decC f) ⟨A5, c5, A6, c6, A7, c7⟩) := Lib.hid (by
                have hb := (BR.out.alloc BR.out.size (clO (decC f) ⟨A5, c5, A6, c6, A7, c7⟩)).drew
                exact ⟨S7.out.1.below hb, S7.out.2.1.below hb, S7.out.2.2.below hb⟩)
              have HUN : Hid (∀ d, IsDec s d → d = decC f) := Lib.hid (fun d hd => by
                obtain ⟨g1, g2⟩ := HIR.out d hd
                have g3 := Option.some.inj (HSP.out.symm.trans g1)
                rw [← HF.out, g3]; exact g2.symm)
              clear HOB S7 L5 L6 L7 HIR OR O8 O7 VC HVZ
              have HFA : Hid ((∀ q, (⟨A5, c5, A6, c6, A7, c7⟩ : P3).a1 = some q → q.block ≠ w.heap.size) ∧ (∀ q, (⟨A5, c5, A6, c6, A7, c7⟩ : P3).a2 = some q → q.block ≠ w.heap.size) ∧ (∀ q, (⟨A5, c5, A6, c6, A7, c7⟩ : P3).a3 = some q → q.block ≠ w.heap.size)) := Lib.hid ⟨F5.out, F6.out, F7.out⟩
              obtain ⟨p, HP⟩ : ∃ p : P3, Hid ((⟨A5, c5, A6, c6, A7, c7⟩ : P3) = p) := ⟨_, Lib.hid rfl⟩
              obtain ⟨c, HC⟩ : ∃ c, Hid (decC f = c) := ⟨_, Lib.hid rfl⟩
              rw [HP.out, HC.out] at HIN HAT
              rw [HP.out] at HFA
              rw [HC.out] at HUN
              rw [HP.out, HC.out]
              have X9 : Hid (ClBox ((wr.alloc (clO c p)).drew) wr.heap.size c p) := Lib.hid (ClBox.new wr c p)
              have B8 : Hid (Below w.heap.size w ((wr.alloc (clO c p)).drew)) := Lib.hid ((((bthen B2.out B7.out).trans (BR.out.mono (Nat.le_trans B2.out.size B7.out.size))).alloc (Nat.le_trans B2.out.size (Nat.le_trans B7.out.size BR.out.size)) _).drew)
              have R8 : Hid (ClBox ((wr.alloc (clO c p)).drew) w.heap.size cl0 p30) := Lib.hid (X2.out.below (((B7.out.trans (BR.out.mono B7.out.size)).alloc (Nat.le_trans B7.out.size BR.out.size) (clO c p)).drew))
              clear HP HC BR B7 B2 X2
              go_wp2_with (first | (refine load_cl rfl _ rfl _ rfl wr.heap.size rfl c p X9 ?_) | fail)
              refine (rencode_any c p _ HIN.out HAT.out).mono ?_
              rintro e w9 ⟨rfl, hb9⟩
              have B9 := Lib.hid (bthen B8.out hb9)
              have A9 := Lib.hid (HAT.out.below hb9)
              have R7 := Lib.hid (R8.out.below hb9)
              have X7 := Lib.hid (X9.out.below hb9)
              clear hb9 X9 R8 B8 HAT
              have HIS : Hid (encE c = 0 → encV c = s → IsDec s c) := Lib.hid isDec_of
              have HIE : Hid (IsDec s c → encE c = 0 ∧ encV c = s) := Lib.hid isDec_enc
              obtain ⟨E, HEE⟩ : ∃ E, Hid (encE c = E) := ⟨_, Lib.hid rfl⟩
              obtain ⟨V, HVV⟩ : ∃ V, Hid (encV c = V) := ⟨_, Lib.hid rfl⟩
              rw [HEE.out, HVV.out] at HIS HIE
              rw [HEE.out, HVV.out]
              by_cases h0 : E = 0
              · by_cases hv : V = s
                · have HI := Lib.hid (HIS.out h0 hv)
                  have q1 : (E != 0) = false := by rw [h0]; rfl
                  have q2 : (V.toList != s.toList) = false := by rw [hv]; simp
                  have q3 : (V.toList == s.toList) = true := by rw [hv]; simp
                  clear h0 hv
                  go_wp2_with (first | (refine load_cl rfl _ rfl _ rfl wr.heap.size rfl c p X7 ?_) | (refine store_cl rfl _ rfl _ _ rfl w.heap.size rfl c p rfl cl0 p30 R7 ?_) | fail)
                  refine bodyPost_ret (v := .tuple #[clV c p, .int .i64 0]) (res_cl Tryz.results51 _ _ w.heap.size c p _ rfl (R7.out.set) rfl) rfl ⟨.inl ⟨c, p, rfl, HI.out, ?_, HIN.out⟩, ?_⟩
                  · exact A9.out.setRow HFA.out.1 HFA.out.2.1 HFA.out.2.2
                  · exact below_setRow B9.out (Nat.le_refl _) _
                · have HN : Hid (∀ d, ¬ IsDec s d) := Lib.hid (fun d hd => by have e := HUN.out d hd; subst e; exact hv (HIE.out hd).2)
                  have q1 : (E != 0) = false := by rw [h0]; rfl
                  have q3 := str_ne hv
                  have q2 : (V.toList != s.toList) = true := by rw [bne, q3]; rfl
                  clear h0 hv
                  go_wp2_with (first | (refine build_cl rfl _ rfl rfl ?_) | (refine store_cl rfl _ rfl _ _ rfl w.heap.size rfl cl0 p30 rfl cl0 p30 R7 ?_) | fail)
                  refine bodyPost_ret (v := .tuple #[clV cl0 p30, .int .i64 4]) (res_cl Tryz.results51 _ _ w.heap.size cl0 p30 _ rfl (R7.out.set) rfl) rfl ⟨.inr ⟨by rw [HD4.out], HN.out⟩, ?_⟩
                  exact below_setRow B9.out (Nat.le_refl _) _
              · have HN : Hid (∀ d, ¬ IsDec s d) := Lib.hid (fun d hd => by have e := HUN.out d hd; subst e; exact h0 (HIE.out hd).1)
                have q1 : (E != 0) = true := by rw [bne_iff_ne]; exact h0
                clear h0
                go_wp2_with (first | (refine build_cl rfl _ rfl rfl ?_) | (refine store_cl rfl _ rfl _ _ rfl w.heap.size rfl cl0 p30 rfl cl0 p30 R7 ?_) | fail)
                refine bodyPost_ret (v := .tuple #[clV cl0 p30, .int .i64 4]) (res_cl Tryz.results51 _ _ w.heap.size cl0 p30 _ rfl (R7.out.set) rfl) rfl ⟨.inr ⟨by rw [HD4.out], HN.out⟩, ?_⟩
                exact below_setRow B9.out (Nat.le_refl _) _
    · have B2 := Lib.hid (bthen B1.out hb1)
      have X2 := Lib.hid (X1.out.below hb1)
      have HN : Hid (∀ d, ¬ IsDec s d) := Lib.hid (fun d hd => by have h := (HIR.out d hd).1; rw [hsp] at h; cases h)
      clear hsp hb1 B1 X1 HIR
      go_wp2_with (first | (refine build_cl rfl _ rfl rfl ?_) | (refine store_cl rfl _ rfl _ _ rfl w.heap.size rfl cl0 p30 rfl cl0 p30 X2 ?_) | fail)
      refine bodyPost_ret (v := .tuple #[clV cl0 p30, .int .i64 4]) (res_cl Tryz.results51 _ _ w.heap.size cl0 p30 _ rfl (X2.out.set) rfl) rfl ⟨.inr ⟨by rw [HD4.out], HN.out⟩, ?_⟩
      exact below_setRow B2.out (Nat.le_refl _) _
end Go.Proofs.YtiiioefjdebggaaGreatDoor

/- The reference's Verify. -/
namespace Go.Proofs.YtiiioefjdebggaaGreatDoor
open Go.RowKit

theorem RetVc.bad {l : List Ky} {s : ByteArray} {x : Ex} {E : Int} (h : verE l s x = E) (h0 : E ≠ 0) (w' : World) : RetVc (verC l s x) (verE l s x) (.returned (.tuple #[clV cl0 p30, .int .i64 E])) w' := by
  rw [(ver_err (h ▸ h0)).2, h]
  exact ⟨p30, rfl, ⟨Strs.nil_ _ _, Strs.nil_ _ _, Strs.nil_ _ _⟩, ClIn.zero⟩
theorem RetVc.good {l : List Ky} {s : ByteArray} {x : Ex} {c : Cl} {q : P3} {w' : World} (h : verE l s x = 0) (hc : verC l s x = c) (ha : ClAt w' c q) (hi : ClIn c q) : RetVc (verC l s x) (verE l s x) (.returned (.tuple #[clV c q, .int .i64 0])) w' := by
  rw [hc, h]
  exact ⟨q, rfl, ha, hi⟩
theorem tok_head {s id text sum : ByteArray} (h : TokIs s id text sum) : 17 ≤ s.size ∧ s.extract 0 (s.size - 17) = headS id text := by
  have h1 := hex_size h.2.1
  have h2 : s = headS id text ++ dotS ++ sum := h.2.2
  have h3 : s.size = (headS id text).size + 17 := by
    rw [h2, ByteArray.size_append, ByteArray.size_append, h1]; rfl
  refine ⟨by omega, ?_⟩
  rw [h3, Nat.add_sub_cancel]
  rw [h2]
  exact app_front _ _
set_option linter.unusedSimpArgs false in
set_option maxHeartbeats 16000000 in
set_option maxRecDepth 100000 in
theorem rverify26_any (l : List Ky) (A : Option Addr) (cc : Nat) (s : ByteArray) (x : Ex) (w : World) (hS : KysAt w A l) (hl : l.length ≤ 9223372036854775807) (hs : s.size ≤ 1000000)
    (hz : ∀ k ∈ l, wordS k.id = true → k.sec.size ≤ 1000000) :
    Calls Tryz.prog 18 #[.slice A l.length cc, .string s, exV x] w fun e w' => RetVc (verC l s x) (verE l s x) e w' ∧ Below w.heap.size w w' := by
  have HS := Lib.hid hS
  have HSZ := Lib.hid hz
  obtain ⟨hh0, hb0⟩ := has2 w x
  have H0 := Lib.hid hh0
  have B0 := Lib.hid hb0
  clear hS hz hh0 hb0
  obtain ⟨gc, HGC⟩ : ∃ g, Hid (w.heap.size + 1 = g) := ⟨_, Lib.hid rfl⟩
  obtain ⟨W0, HW0⟩ : ∃ W, Hid (((w.alloc (exO0 x)).alloc (clO cl0 p30)) = W) := ⟨_, Lib.hid rfl⟩
  rw [HGC.out] at H0
  rw [HW0.out] at H0 B0
  have hgc : w.heap.size < gc := by have := HGC.out; omega
  have e1 : (w.alloc (exO0 x)).heap.size = gc := by rw [← HGC.out]; simp
  go_enter Tryz.func18, Tryz.ntmps18
  go_upto_region 1 with (first
    | (refine box_ex rfl _ rfl _ rfl x rfl ?_)
    | (refine alloc_cl rfl _ rfl rfl ?_; rw [e1, HW0.out])
    | fail)
  clear e1 HW0 HGC
  go_wp2_with fail
  refine (rsplit26_any s _ hs).mono ?_
  rintro e w1 ⟨⟨id, text, sum, rfl, ht, ha, hb, hc⟩ | ⟨rfl, hn⟩, hb1⟩
  · have HT := Lib.hid ht
    have B1 := Lib.hid (bthen B0.out hb1)
    have H1 := Lib.hid (H0.out.below hb1)
    clear ht hb1 H0 B0
    obtain ⟨x4, x5⟩ := ExBox.cells (x := x) (H1.out.get w.heap.size (exO0 x) (by simp))
    go_wp2_with fail
    refine (raccepting_any l A cc id x.now x.skew _ (HS.out.below B1.out) hl).mono ?_
    rintro e w2 ⟨rfl, hb2⟩
    have B2 := Lib.hid (bthen B1.out hb2)
    have H2 := Lib.hid (H1.out.below hb2)
    clear hb2 H1 B1 x4 x5
    have Z2 : Hid (KyBox (w2.alloc (kyO ky0)) w2.heap.size ky0) := Lib.hid (KyBox.new _ _)
    have HF := Lib.hid (fun k (h : findK l id = some k) => findK_has h)
    have HW : Hid (wordS id = true) := Lib.hid HT.out.1
    rcases hfk : findK l id with _ | k
    · have HA := Lib.hid (accK_none hfk x.now x.skew)
      rw [HA.out.1, HA.out.2]
      have HR : Hid (∀ w', RetVc (verC l s x) (verE l s x) (.returned (.tuple #[clV cl0 p30, .int .i64 26])) w') := Lib.hid (RetVc.bad (ver_key HT.out hfk) (by decide))
      have H3 : Hid (Has ((w2.alloc (kyO ky0)).setRow w2.heap.size (kyA ky0)) _) := Lib.hid (H2.out.below (below_ky w2 ky0 ky0))
      have B3 := Lib.hid (bthen B2.out (below_ky w2 ky0 ky0))
      obtain ⟨W3, HW3⟩ : ∃ W, Hid (((w2.alloc (kyO ky0)).setRow w2.heap.size (kyA ky0)) = W) := ⟨_, Lib.hid rfl⟩
      rw [HW3.out] at H3 B3
      clear hfk HA
      go_upto_region 5 with (first
        | (refine alloc_ky rfl _ rfl rfl ?_)
        | (refine store_ky rfl _ rfl _ _ rfl w2.heap.size rfl ky0 rfl ky0 Z2 ?_; rw [HW3.out])
        | fail)
      have CB : Hid (ClBox W3 gc cl0 p30) := Lib.hid (H3.out.get gc _ (by simp))
      have CB2 := Lib.hid (CB.out.set (c := cl0) (p := p30))
      have BZ : Hid (Below w.heap.size w (W3.setRow gc (clA cl0 p30))) := Lib.hid (below_setRow B3.out (by omega) _)
      go_wp2_with (first
        | (refine build_cl rfl _ rfl rfl ?_)
        | (refine store_cl rfl _ rfl _ _ rfl gc rfl cl0 p30 rfl cl0 p30 CB ?_)
        | fail)
      refine bodyPost_ret (v := .tuple #[clV cl0 p30, .int .i64 26]) (res_cl Tryz.results18 _ _ gc cl0 p30 _ rfl CB2.out rfl) rfl ⟨HR.out _, BZ.out⟩
    · obtain ⟨hm, hid⟩ := HF.out k hfk
      have hkz := HSZ.out k hm (by rw [hid]; exact HW.out)
      have HFK := Lib.hid hfk
      have HA := Lib.hid (accK_some hfk x.now x.skew)
      clear hfk hid hm HF
      obtain ⟨E, HE⟩ : ∃ E, Hid (windowE k.af k.au x.now x.skew = E) := ⟨_, Lib.hid rfl⟩
      rw [HE.out] at HA
      by_cases h0 : E = 0
      · have hEb : (E != 0) = false := by rw [h0]; rfl
        have HWN : Hid (windowE k.af k.au x.now x.skew = 0) := Lib.hid (HE.out.trans h0)
        rw [HA.out.1, HA.out.2, if_pos h0]
        subst h0
        have Y3 : Hid (KyBox ((w2.alloc (kyO ky0)).setRow w2.heap.size (kyA k)) w2.heap.size k) := Lib.hid Z2.out.set
        have H3 : Hid (Has ((w2.alloc (kyO ky0)).setRow w2.heap.size (kyA k)) _) := Lib.hid (H2.out.below (below_ky w2 ky0 k))
        have B3 := Lib.hid (bthen B2.out (below_ky w2 ky0 k))
        obtain ⟨W3, HW3⟩ : ∃ W, Hid (((w2.alloc (kyO ky0)).setRow w2.heap.size (kyA k)) = W) := ⟨_, Lib.hid rfl⟩
        obtain ⟨g, HGG⟩ : ∃ g, Hid (w2.heap.size = g) := ⟨_, Lib.hid rfl⟩
        rw [HW3.out] at H3 B3
        rw [HW3.out, HGG.out] at Y3
        clear H2 B2 HA HE
        go_upto_region 7 with (first
          | (refine alloc_ky rfl _ rfl rfl ?_)
          | (refine store_ky rfl _ rfl _ _ rfl w2.heap.size rfl k rfl ky0 Z2 ?_; rw [HW3.out, HGG.out])
          | fail)
        clear Z2 HW3 HGG
        obtain ⟨hs17, hhd⟩ := tok_head HT.out
        have HV1 := Lib.hid (ver_sig (l := l) (x := x) HT.out HFK.out HWN.out)
        have HV2 := Lib.hid (ver_dec (l := l) (x := x) HT.out HFK.out HWN.out)
        have HV3 := Lib.hid (fun c => ver_all (l := l) (x := x) (c := c) HT.out HFK.out HWN.out)
        have HV4 := Lib.hid (fun c => ver_get (l := l) (x := x) (c := c) HT.out HFK.out)
        have hez : (s.extract 0 (s.size - 17)).size ≤ 1000000 := by rw [ByteArray.size_extract]; omega
        have HSG := Lib.hid (fun w' => rsignature_any k.sec (s.extract 0 (s.size - 17)) w' (by omega) hez)
        rw [← hhd] at HV1 HV2 HV3
        obtain ⟨S, HSN⟩ : ∃ h, Hid (sgnS k.sec (s.extract 0 (s.size - 17)) = h) := ⟨_, Lib.hid rfl⟩
        rw [HSN.out] at HV1 HV2 HV3 HSG
        obtain ⟨q0, q1, q2, q3, q4, q5⟩ := Y3.out.cells
        have i0 : (0 : Int) ≤ (s.size : Int) - 17 := by omega
        have i2 : ((s.size : Int) - 17).toNat = s.size - 17 := by omega
        have i3 : IntKind.i64.wrap ((s.size : Int) - 17) = (s.size : Int) - 17 := by rw [IntKind.wrap_i64]; omega
        have i4 : (s.size : Int) - 17 ≤ (s.size : Int) := by omega
        have i5 : (17 : Int) ≤ (s.size : Int) := by omega
        have B3g : w.heap.size ≤ W3.heap.size := B3.out.size
        clear hhd hez q0 q2 q3 q4 q5
        by_cases hse : sum = S
        · have t1 : (sum.toList == S.toList) = true := by rw [hse]; simp
          have t2 : (sum.toList != S.toList) = false := by rw [hse]; simp
          have t4 : (!sum.toList == S.toList) = false := by rw [hse]; simp
          have HV2' := Lib.hid (HV2.out hse)
          have HV3' := Lib.hid (fun c => HV3.out c hse)
          clear hse HV1 HV2 HV3
          go_region_held3 (fun w' => w'.cell? ⟨g, 1, none⟩ = some (.string k.sec)) (first | go_keep | (exact q1)) (first | (go_at_call 48; refine (Calls.mono (HSG.out _) ?_); rintro e w4 ⟨rfl, rfl⟩) | fail)
          have B5 := Lib.hid B3.out.drew
          have H5 := Lib.hid (H3.out.below ((Below.refl _ _).drew))
          have hbt : text.size ≤ 1000000000 := by omega
          clear q1 B3 H3 Y3 i0 i2 i3 i4 i5 HSG
          go_wp2_with fail
          refine (rdecode25_any text _ hbt).mono ?_
          rintro e w6 ⟨⟨c, q, rfl, hdc, hac, hic⟩ | ⟨rfl, hdn⟩, hb6⟩
          · have HVA := Lib.hid (HV3'.out c hdc)
            have HVG := Lib.hid (HV4.out c hdc)
            have Z6 : Hid (ClBox (w6.alloc (clO cl0 p30)) w6.heap.size cl0 p30) := Lib.hid (ClBox.new _ _ _)
            have B6 := Lib.hid (bthen B5.out (bthen hb6 (below_cl w6 c q)))
            have H6 := Lib.hid ((H5.out.below hb6).below (below_cl w6 c q))
            have D6 := Lib.hid (hac.below (below_cl w6 c q))
            have X6 : Hid (ClBox ((w6.alloc (clO cl0 p30)).setRow w6.heap.size (clA c q)) w6.heap.size c q) := Lib.hid Z6.out.set
            have IC := Lib.hid hic
            obtain ⟨g6, HG6⟩ : ∃ g, Hid (w6.heap.size = g) := ⟨_, Lib.hid rfl⟩
            obtain ⟨W6, HW6⟩ : ∃ W, Hid (((w6.alloc (clO cl0 p30)).setRow w6.heap.size (clA c q)) = W) := ⟨_, Lib.hid rfl⟩
            rw [HW6.out] at B6 H6 D6
            rw [HW6.out, HG6.out] at X6
            have XX : Hid (ExBox W6 w.heap.size x) := Lib.hid (H6.out.get w.heap.size _ (by simp))
            have HCK := Lib.hid hdc.1
            clear hdc hac hic hb6 B5 H5 HV2' HV3' HV4
            go_wp2_with (first
              | (refine alloc_cl rfl _ rfl rfl ?_)
              | (refine store_cl rfl _ rfl _ _ rfl w6.heap.size rfl c q rfl cl0 p30 Z6 ?_; rw [HW6.out, HG6.out])
              | (refine load_cl rfl _ rfl _ rfl g6 rfl c q X6 ?_)
              | (refine load_ex rfl _ rfl _ rfl w.heap.size rfl x XX ?_)
              | fail)
            clear Z6 HW6 XX
            refine (rallow_any c q x _ IC.out.m1 D6.out).mono ?_
            rintro e w7 ⟨rfl, hb7⟩
            obtain ⟨E, HE⟩ : ∃ E, Hid (allowE c x = E) := ⟨_, Lib.hid rfl⟩
            rw [HE.out] at HVA
            rw [HE.out]
            have B7 := Lib.hid (bthen B6.out hb7)
            have H7 := Lib.hid (H6.out.below hb7)
            have X7 := Lib.hid (X6.out.below hb7)
            have D7 := Lib.hid (D6.out.below hb7)
            clear hb7 B6 H6 X6 D6
            by_cases h0 : E = 0
            · have hEb : (E != 0) = false := by rw [h0]; rfl
              have HV0 := Lib.hid (HVA.out.trans h0)
              have HVK := Lib.hid (HVG.out HV0.out)
              subst h0
              have CB : Hid (ClBox w7 gc cl0 p30) := Lib.hid (H7.out.get gc _ (by simp))
              have CB2 := Lib.hid (CB.out.set (c := c) (p := q))
              have BZ : Hid (Below w.heap.size w (w7.setRow gc (clA c q))) := Lib.hid (below_setRow B7.out (by omega) _)
              have DZ : Hid (ClAt (w7.setRow gc (clA c q)) c q) := Lib.hid (ClAt.setBlank D7.out HCK.out (b := gc) CB.out blank_cl _)
              go_wp2_with (first
                | (refine load_cl rfl _ rfl _ rfl g6 rfl c q X7 ?_)
                | (refine store_cl rfl _ rfl _ _ rfl gc rfl c q rfl cl0 p30 CB ?_)
                | fail)
              refine bodyPost_ret (v := .tuple #[clV c q, .int .i64 0]) (res_cl Tryz.results18 _ _ gc c q _ rfl CB2.out rfl) rfl ⟨RetVc.good HV0.out HVK.out.2 DZ.out IC.out, BZ.out⟩
            · have hEb : (E != 0) = true := by simpa using h0
              have HR : Hid (∀ w', RetVc (verC l s x) (verE l s x) (.returned (.tuple #[clV cl0 p30, .int .i64 E])) w') := Lib.hid (RetVc.bad HVA.out h0)
              clear h0
              have CB : Hid (ClBox w7 gc cl0 p30) := Lib.hid (H7.out.get gc _ (by simp))
              have CB2 := Lib.hid (CB.out.set (c := cl0) (p := p30))
              have BZ : Hid (Below w.heap.size w (w7.setRow gc (clA cl0 p30))) := Lib.hid (below_setRow B7.out (by omega) _)
              go_wp2_with (first
                | (refine build_cl rfl _ rfl rfl ?_)
                | (refine store_cl rfl _ rfl _ _ rfl gc rfl cl0 p30 rfl cl0 p30 CB ?_)
                | fail)
              refine bodyPost_ret (v := .tuple #[clV cl0 p30, .int .i64 E]) (res_cl Tryz.results18 _ _ gc cl0 p30 _ rfl CB2.out rfl) rfl ⟨HR.out _, BZ.out⟩
          · have HVA := Lib.hid (HV2'.out hdn)
            have hne := decE_ne text
            obtain ⟨E, HE⟩ : ∃ E, Hid (decE text = E) := ⟨_, Lib.hid rfl⟩
            rw [HE.out] at HVA hne
            rw [HE.out]
            have hEb : (E != 0) = true := by simpa using hne
            have HR : Hid (∀ w', RetVc (verC l s x) (verE l s x) (.returned (.tuple #[clV cl0 p30, .int .i64 E])) w') := Lib.hid (RetVc.bad HVA.out hne)
            have Z6 : Hid (ClBox (w6.alloc (clO cl0 p30)) w6.heap.size cl0 p30) := Lib.hid (ClBox.new _ _ _)
            have B6 := Lib.hid (bthen B5.out (bthen hb6 (below_cl w6 cl0 p30)))
            have H6 := Lib.hid ((H5.out.below hb6).below (below_cl w6 cl0 p30))
            obtain ⟨W6, HW6⟩ : ∃ W, Hid (((w6.alloc (clO cl0 p30)).setRow w6.heap.size (clA cl0 p30)) = W) := ⟨_, Lib.hid rfl⟩
            rw [HW6.out] at B6 H6
            clear hdn hb6 B5 H5 HV2' HV3' HV4 hne
            go_upto_region 10 with (first
              | (refine alloc_cl rfl _ rfl rfl ?_)
              | (refine store_cl rfl _ rfl _ _ rfl w6.heap.size rfl cl0 p30 rfl cl0 p30 Z6 ?_; rw [HW6.out])
              | fail)
            have CB : Hid (ClBox W6 gc cl0 p30) := Lib.hid (H6.out.get gc _ (by simp))
            have CB2 := Lib.hid (CB.out.set (c := cl0) (p := p30))
            have BZ : Hid (Below w.heap.size w (W6.setRow gc (clA cl0 p30))) := Lib.hid (below_setRow B6.out (by omega) _)
            go_wp2_with (first
              | (refine build_cl rfl _ rfl rfl ?_)
              | (refine store_cl rfl _ rfl _ _ rfl gc rfl cl0 p30 rfl cl0 p30 CB ?_)
              | fail)
            refine bodyPost_ret (v := .tuple #[clV cl0 p30, .int .i64 E]) (res_cl Tryz.results18 _ _ gc cl0 p30 _ rfl CB2.out rfl) rfl ⟨HR.out _, BZ.out⟩
        · have t1 : (sum.toList == S.toList) = false := str_ne hse
          have t2 : (sum.toList != S.toList) = true := by rw [bne, t1]; rfl
          have t4 : (!sum.toList == S.toList) = true := by rw [t1]; rfl
          have HR : Hid (∀ w', RetVc (verC l s x) (verE l s x) (.returned (.tuple #[clV cl0 p30, .int .i64 17])) w') := Lib.hid (RetVc.bad (HV1.out hse) (by decide))
          clear hse HV1 HV2 HV3 HV4
          go_region_held3 (fun w' => w'.cell? ⟨g, 1, none⟩ = some (.string k.sec)) (first | go_keep | (exact q1)) (first | (go_at_call 48; refine (Calls.mono (HSG.out _) ?_); rintro e w4 ⟨rfl, rfl⟩) | fail)
          have B5 := Lib.hid B3.out.drew
          have H5 := Lib.hid (H3.out.below ((Below.refl _ _).drew))
          clear q1 B3 H3 Y3 i0 i2 i3 i4 i5 HSG
          obtain ⟨w5, HW5⟩ : ∃ W, Hid (W3.drew = W) := ⟨_, Lib.hid rfl⟩
          rw [HW5.out] at B5 H5
          rw [HW5.out]
          have CB : Hid (ClBox w5 gc cl0 p30) := Lib.hid (H5.out.get gc _ (by simp))
          have CB2 := Lib.hid (CB.out.set (c := cl0) (p := p30))
          have BZ : Hid (Below w.heap.size w (w5.setRow gc (clA cl0 p30))) := Lib.hid (below_setRow B5.out (by omega) _)
          go_wp2_with (first
            | (refine build_cl rfl _ rfl rfl ?_)
            | (refine store_cl rfl _ rfl _ _ rfl gc rfl cl0 p30 rfl cl0 p30 CB ?_)
            | fail)
          refine bodyPost_ret (v := .tuple #[clV cl0 p30, .int .i64 17]) (res_cl Tryz.results18 _ _ gc cl0 p30 _ rfl CB2.out rfl) rfl ⟨HR.out _, BZ.out⟩
      · have hEb : (E != 0) = true := by simpa using h0
        have HR : Hid (∀ w', RetVc (verC l s x) (verE l s x) (.returned (.tuple #[clV cl0 p30, .int .i64 E])) w') := Lib.hid (RetVc.bad ((ver_win HT.out HFK.out (by rw [HE.out]; exact h0)).trans HE.out) h0)
        rw [HA.out.1, HA.out.2, if_neg h0]
        have H3 : Hid (Has ((w2.alloc (kyO ky0)).setRow w2.heap.size (kyA ky0)) _) := Lib.hid (H2.out.below (below_ky w2 ky0 ky0))
        have B3 := Lib.hid (bthen B2.out (below_ky w2 ky0 ky0))
        obtain ⟨W3, HW3⟩ : ∃ W, Hid (((w2.alloc (kyO ky0)).setRow w2.heap.size (kyA ky0)) = W) := ⟨_, Lib.hid rfl⟩
        rw [HW3.out] at H3 B3
        clear h0
        go_upto_region 5 with (first
          | (refine alloc_ky rfl _ rfl rfl ?_)
          | (refine store_ky rfl _ rfl _ _ rfl w2.heap.size rfl ky0 rfl ky0 Z2 ?_; rw [HW3.out])
          | fail)
        have CB : Hid (ClBox W3 gc cl0 p30) := Lib.hid (H3.out.get gc _ (by simp))
        have CB2 := Lib.hid (CB.out.set (c := cl0) (p := p30))
        have BZ : Hid (Below w.heap.size w (W3.setRow gc (clA cl0 p30))) := Lib.hid (below_setRow B3.out (by omega) _)
        go_wp2_with (first
          | (refine build_cl rfl _ rfl rfl ?_)
          | (refine store_cl rfl _ rfl _ _ rfl gc rfl cl0 p30 rfl cl0 p30 CB ?_)
          | fail)
        refine bodyPost_ret (v := .tuple #[clV cl0 p30, .int .i64 E]) (res_cl Tryz.results18 _ _ gc cl0 p30 _ rfl CB2.out rfl) rfl ⟨HR.out _, BZ.out⟩
  · have B1 := Lib.hid (bthen B0.out hb1)
    have H1 := Lib.hid (H0.out.below hb1)
    have HR : Hid (∀ w', RetVc (verC l s x) (verE l s x) (.returned (.tuple #[clV cl0 p30, .int .i64 4])) w') := Lib.hid (RetVc.bad (ver_form hn) (by decide))
    clear hn hb1 H0 B0
    have CB : Hid (ClBox w1 gc cl0 p30) := Lib.hid (H1.out.get gc _ (by simp))
    have CB2 := Lib.hid (CB.out.set (c := cl0) (p := p30))
    have BZ : Hid (Below w.heap.size w (w1.setRow gc (clA cl0 p30))) := Lib.hid (below_setRow B1.out (by omega) _)
    go_wp2_with (first
      | (refine build_cl rfl _ rfl rfl ?_)
      | (refine store_cl rfl _ rfl _ _ rfl gc rfl cl0 p30 rfl cl0 p30 CB ?_)
      | fail)
    refine bodyPost_ret (v := .tuple #[clV cl0 p30, .int .i64 4]) (res_cl Tryz.results18 _ _ gc cl0 p30 _ rfl CB2.out rfl) rfl ⟨HR.out _, BZ.out⟩
end Go.Proofs.YtiiioefjdebggaaGreatDoor

/- The reference's Left. -/
namespace Go.Proofs.YtiiioefjdebggaaGreatDoor
open Go.RowKit

set_option maxHeartbeats 1000000 in
theorem rend_any (u k : Int) (w : World) (hu : -9223372036854775808 ≤ u) :
    Calls Tryz.prog 55 #[.int .i64 u, .int .i64 k] w fun e w' => e = .returned (.int .i64 (endT u k)) ∧ w = w' := by
  go_enter Tryz.func55, Tryz.ntmps55
  go_wp2_with fail
  all_goals
    go_ret
    exact ⟨ret_int (by unfold endT skewT; omega), rfl⟩
set_option maxHeartbeats 1000000 in
theorem rlim26_any (t : Int) (w : World) :
    Calls Tryz.prog 56 #[.int .i64 t] w fun e w' => e = .returned (.int .i64 (limT t)) ∧ w = w' := by
  go_enter Tryz.func56, Tryz.ntmps56
  go_wp2_with fail
  all_goals
    go_ret
    exact ⟨ret_int (by unfold limT; omega), rfl⟩
theorem endT_in {u : Int} (k : Int) (hu : -9223372036854775808 ≤ u) : -9223372036854775808 ≤ endT u k ∧ endT u k ≤ 1099511627777 := by unfold endT skewT; omega
/-- The key and the claims of an accepted token. -/
theorem ver_parts {l : List Ky} {s : ByteArray} {x : Ex} (h : verE l s x = 0) {id text sum : ByteArray} (ht : TokIs s id text sum) : accV l id x.now x.skew = verK l s x ∧ accE l id x.now x.skew = 0 ∧ verK l s x ∈ l ∧ 0 ≤ (verC l s x).exp := by
  obtain ⟨id', text', sum', k, c, ht', hf, hw, _, hd, _, hk, hc⟩ := ver_zero h
  obtain ⟨rfl, rfl, rfl⟩ := ht.inj ht'
  rw [hk, hc]
  obtain ⟨a1, a2⟩ := accK_some hf x.now x.skew
  refine ⟨by rw [a2, if_pos hw], by rw [a1, hw], (findK_has hf).1, ?_⟩
  obtain ⟨_, _, _, _, ht2, _⟩ := check_ok hd.1
  rw [timeB] at ht2
  simp only [Bool.and_eq_true, validT, decide_eq_true_iff] at ht2
  exact ht2.1.1.2.1
theorem ver_some {l : List Ky} {s : ByteArray} {x : Ex} (h : verE l s x = 0) (hn : ∀ a b c, ¬ TokIs s a b c) : False := by
  obtain ⟨id', text', sum', k, c, ht', _⟩ := ver_zero h
  exact hn _ _ _ ht'
set_option linter.unusedSimpArgs false in
set_option maxHeartbeats 16000000 in
set_option maxRecDepth 100000 in
theorem rleft26_any (l : List Ky) (A : Option Addr) (cc : Nat) (s : ByteArray) (x : Ex) (w : World) (hS : KysAt w A l) (hl : l.length ≤ 9223372036854775807) (hs : s.size ≤ 1000000)
    (hz : ∀ k ∈ l, wordS k.id = true → k.sec.size ≤ 1000000) (hin : ∀ k ∈ l, KyIn k) :
    Calls Tryz.prog 21 #[.slice A l.length cc, .string s, exV x] w fun e w' => e = .returned (.int .i64 (leftV l s x)) ∧ Below w.heap.size w w' := by
  have B1 : Hid (Below w.heap.size w (w.alloc (exO0 x))) := Lib.hid ((Below.refl _ _).alloc (Nat.le_refl _) _)
  have X1 : Hid (ExBox (w.alloc (exO0 x)) w.heap.size x) := Lib.hid (ExBox.new w x)
  have HS := Lib.hid hS
  have HSZ := Lib.hid hz
  have HIN := Lib.hid hin
  have HVP := Lib.hid (fun h id text sum ht => @ver_parts l s x h id text sum ht)
  have HVN := Lib.hid (@ver_some l s x)
  have HL0 := Lib.hid (@left_no l s x)
  have HL1 : Hid (verE l s x = 0 → leftV l s x = min (endT (verC l s x).exp x.skew) (endT (verK l s x).au x.skew) - limT x.now) := Lib.hid (fun h => by rw [leftV, if_pos h])
  have HL2' : Hid (verE l s x = 0 → 0 < leftV l s x) := Lib.hid (fun h => (left_ok h rfl rfl).2)
  clear hS hz hin
  obtain ⟨L, HL⟩ : ∃ k, Hid (leftV l s x = k) := ⟨_, Lib.hid rfl⟩
  obtain ⟨K, HK⟩ : ∃ k, Hid (verK l s x = k) := ⟨_, Lib.hid rfl⟩
  obtain ⟨C, HC⟩ : ∃ k, Hid (verC l s x = k) := ⟨_, Lib.hid rfl⟩
  obtain ⟨E, HE⟩ : ∃ k, Hid (verE l s x = k) := ⟨_, Lib.hid rfl⟩
  rw [HL.out, HE.out] at HL0 HL2'
  rw [HL.out, HE.out, HK.out, HC.out] at HL1
  rw [HE.out, HK.out, HC.out] at HVP
  rw [HE.out] at HVN
  rw [HL.out]
  go_enter Tryz.func21, Tryz.ntmps21
  go_upto_region 1 with (first | (refine box_ex rfl _ rfl _ rfl x rfl ?_) | fail)
  go_wp2_with (first | (refine load_ex rfl _ rfl _ rfl w.heap.size rfl x X1 ?_) | fail)
  refine (rverify26_any l A cc s x _ (HS.out.below B1.out) hl hs HSZ.out).mono ?_
  rintro e w2 ⟨⟨q, rfl, hca, hci⟩, hb2⟩
  rw [HC.out, HE.out]
  clear hca hci
  have Z2 : Hid (ClBox (w2.alloc (clO cl0 p30)) w2.heap.size cl0 p30) := Lib.hid (ClBox.new _ _ _)
  have bb := below_cl w2 C q
  have V2 : Hid (ClBox ((w2.alloc (clO cl0 p30)).setRow w2.heap.size (clA C q)) w2.heap.size C q) := Lib.hid (ClBox.set Z2.out)
  obtain ⟨W2, HW2⟩ : ∃ W, Hid (((w2.alloc (clO cl0 p30)).setRow w2.heap.size (clA C q)) = W) := ⟨_, Lib.hid rfl⟩
  rw [HW2.out] at bb V2
  have X2 := Lib.hid ((X1.out.below hb2).below bb)
  have B2 := Lib.hid (bthen B1.out (bthen hb2 bb))
  clear bb hb2 X1
  go_upto_region 2 with (first
    | (refine alloc_cl rfl _ rfl rfl ?_)
    | (refine store_cl rfl _ rfl _ _ rfl w2.heap.size rfl C q rfl cl0 p30 Z2 ?_; rw [HW2.out])
    | fail)
  clear Z2 HW2
  by_cases h0 : E = 0
  · have hEb : (E != 0) = false := by rw [h0]; rfl
    have HVP2 := Lib.hid (HVP.out h0)
    have HVN2 := Lib.hid (HVN.out h0)
    have HLL := Lib.hid (HL1.out h0)
    have HL2 := Lib.hid (HL2'.out h0)
    clear h0 HVP HVN HL1 HL0
    go_wp2_with fail
    refine (rsplit26_any s _ hs).mono ?_
    rintro e w3 ⟨(⟨i1, i2, i3, rfl, hti, _, _, _⟩ | ⟨rfl, hno⟩), hb3⟩
    rotate_left
    · exact (HVN2.out hno).elim
    obtain ⟨p1, p2, p3, p4⟩ := HVP2.out i1 i2 i3 hti
    have HA1 := Lib.hid p1
    have HA2 := Lib.hid p2
    have HEX := Lib.hid p4
    have HAU := Lib.hid (HIN.out K p3).i3
    have X3 := Lib.hid (X2.out.below hb3)
    have V3 := Lib.hid (V2.out.below hb3)
    have B3 := Lib.hid (bthen B2.out hb3)
    clear p1 p2 p3 p4 hti hb3 HVP2 HVN2 X2 V2 B2
    obtain ⟨x4, x5⟩ := X3.out.cells
    go_wp2_with fail
    refine (raccepting_any l A cc i1 x.now x.skew _ (HS.out.below B3.out) hl).mono ?_
    rintro e w4 ⟨rfl, hb4⟩
    rw [HA1.out, HA2.out]
    have Z4 : Hid (KyBox (w4.alloc (kyO ky0)) w4.heap.size ky0) := Lib.hid (KyBox.new _ _)
    have bb := below_ky w4 ky0 K
    have Y4 : Hid (KyBox ((w4.alloc (kyO ky0)).setRow w4.heap.size (kyA K)) w4.heap.size K) := Lib.hid (KyBox.set Z4.out)
    obtain ⟨W4, HW4⟩ : ∃ W, Hid (((w4.alloc (kyO ky0)).setRow w4.heap.size (kyA K)) = W) := ⟨_, Lib.hid rfl⟩
    rw [HW4.out] at bb Y4
    have X4 := Lib.hid ((X3.out.below hb4).below bb)
    have V4 := Lib.hid ((V3.out.below hb4).below bb)
    have B4 := Lib.hid (bthen B3.out (bthen hb4 bb))
    clear bb hb4 x4 x5 X3 V3 B3
    go_upto_region 6 with (first
      | (refine alloc_ky rfl _ rfl rfl ?_)
      | (refine store_ky rfl _ rfl _ _ rfl w4.heap.size rfl K rfl ky0 Z4 ?_; rw [HW4.out])
      | fail)
    clear Z4 HW4
    obtain ⟨x4, x5⟩ := X4.out.cells
    have c13 := V4.out.cells.2.2.2.2.2.2.2.2.2.2.2.2.2.1
    have k5 := Y4.out.cells.2.2.2.2.2
    have HQ := Lib.hid (⟨x4, x5, c13, k5⟩ : _ ∧ _ ∧ _ ∧ _)
    have HE1 := Lib.hid (fun w' => rend_any C.exp x.skew w' (by have := HEX.out; omega))
    have HE2 := Lib.hid (fun w' => rend_any K.au x.skew w' HAU.out.1)
    have HE3 := Lib.hid (fun w' => rlim26_any x.now w')
    have hL := HLL.out
    have hLp := HL2.out
    have hm := limT_in x.now
    have hu1 := (endT_in (u := C.exp) x.skew (by have := HEX.out; omega)).2
    obtain ⟨U, HU⟩ : ∃ k, Hid (endT C.exp x.skew = k) := ⟨_, Lib.hid rfl⟩
    obtain ⟨V, HV⟩ : ∃ k, Hid (endT K.au x.skew = k) := ⟨_, Lib.hid rfl⟩
    obtain ⟨M, HM⟩ : ∃ k, Hid (limT x.now = k) := ⟨_, Lib.hid rfl⟩
    rw [HU.out] at HE1 hL hu1
    rw [HV.out] at HE2 hL
    rw [HM.out] at HE3 hL hm
    have HW := Lib.hid (show IntKind.i64.wrap (min U V - M) = L by rw [IntKind.wrap_i64]; omega)
    have hw := HW.out
    clear hL hLp hm hu1 HU HV HM HLL HL2 HEX HAU
    go_region_held3 (fun w' => w'.cell? ⟨w.heap.size, 4, none⟩ = some (.int .i64 x.now) ∧ w'.cell? ⟨w.heap.size, 5, none⟩ = some (.int .i64 x.skew) ∧ w'.cell? ⟨w2.heap.size, 13, none⟩ = some (.int .i64 C.exp) ∧ w'.cell? ⟨w4.heap.size, 5, none⟩ = some (.int .i64 K.au))
      (first | go_keep | (exact HQ.out))
      (first
        | (go_at_call_of 55 (Value.int IntKind.i64 C.exp); refine (Calls.mono (HE1.out _) ?_); rintro e w5 ⟨rfl, rfl⟩)
        | (go_at_call_of 55 (Value.int IntKind.i64 K.au); refine (Calls.mono (HE2.out _) ?_); rintro e w5 ⟨rfl, rfl⟩)
        | (go_at_call 56; refine (Calls.mono (HE3.out _) ?_); rintro e w5 ⟨rfl, rfl⟩)
        | fail)
    all_goals
      go_wp2_with fail
      go_ret
      exact ⟨ret_int rfl, B4.out.drew⟩
  · have hEb : (E != 0) = true := by simpa using h0
    have HLL := Lib.hid (HL0.out h0)
    clear h0
    go_wp2_with fail
    go_ret
    exact ⟨ret_int HLL.out.symm, B2.out⟩
end Go.Proofs.YtiiioefjdebggaaGreatDoor

/- token.Peek and its reference. -/
namespace Go.Proofs.YtiiioefjdebggaaGreatDoor
open Go.RowKit

noncomputable def peekE (s : ByteArray) : Int := match tokO s with
  | none => 4
  | some (_, text, _) => match decO text with
    | none => decE text
    | some _ => 0
noncomputable def peekC (s : ByteArray) : Cl := match tokO s with
  | none => cl0
  | some (_, text, _) => match decO text with
    | none => cl0
    | some c => c
theorem peek_no {s : ByteArray} (h : ∀ a b c, ¬ TokIs s a b c) : peekC s = cl0 ∧ peekE s = 4 := by
  rw [peekC, peekE, tokO_none h]; exact ⟨rfl, rfl⟩
theorem peek_dec {s id text sum : ByteArray} (h : TokIs s id text sum) (hd : ∀ c, ¬ IsDec text c) : peekC s = cl0 ∧ peekE s = decE text := by
  rw [peekC, peekE, tokO_some h]; simp only [decO_none hd]; exact ⟨trivial, trivial⟩
theorem peek_ok {s id text sum : ByteArray} {c : Cl} (h : TokIs s id text sum) (hd : IsDec text c) : peekC s = c ∧ peekE s = 0 := by
  rw [peekC, peekE, tokO_some h]; simp only [decO_some hd]; exact ⟨trivial, trivial⟩
theorem peekC_small (s : ByteArray) : SmallL (peekC s) := by
  have h0 : SmallL cl0 := ⟨by decide, by decide, by decide⟩
  cases h : tokO s with
  | none => rw [peekC, h]; exact h0
  | some t =>
    obtain ⟨a, b, c⟩ := t
    have ht := tokO_is h
    cases hd : decO b with
    | none => rw [(peek_dec ht (fun c hc => by rw [decO_some hc] at hd; cases hd)).1]; exact h0
    | some d =>
      have hdd := decO_is hd
      rw [(peek_ok ht hdd).1]; exact SmallL.of (check_small hdd.1)
set_option linter.unusedSimpArgs false in
set_option maxHeartbeats 8000000 in
set_option maxRecDepth 100000 in
theorem peek26_any (s : ByteArray) (w : World) (hd : DigOk w) (hp : PowOk w) (hk : KeysOk w) (he : ErrsOk w) (hs : s.size ≤ 1000000) :
    Calls Tryz.prog 28 #[.string s] w fun e w' => RetVc (peekC s) (peekE s) e w' ∧ Below w.heap.size w w' := by
  have B1 : Hid (Below w.heap.size w (w.alloc (clO cl0 p30))) := Lib.hid ((Below.refl _ _).alloc (Nat.le_refl _) _)
  have X1 : Hid (ClBox (w.alloc (clO cl0 p30)) w.heap.size cl0 p30) := Lib.hid (ClBox.new w cl0 p30)
  have HDD := Lib.hid hd
  have HPP := Lib.hid hp
  have HKK := Lib.hid hk
  have HEE := Lib.hid he
  clear hd hp hk he
  go_enter Tryz.func28, Tryz.ntmps28
  go_upto_region 1 with (first | (refine alloc_cl rfl _ rfl rfl ?_) | fail)
  go_wp2_with fail
  refine (split26_any s _ (HDD.out.below B1.out) (by omega)).mono ?_
  rintro e w2 ⟨⟨i1, i2, i3, rfl, hti, _, hts, _⟩ | ⟨rfl, hno⟩, hb2⟩
  · have HT := Lib.hid hti
    have B2 := Lib.hid (bthen B1.out hb2)
    have X2 := Lib.hid (X1.out.below hb2)
    clear hti hb2
    have hts2 : i2.size ≤ 1000000 := by omega
    clear hts hs
    go_wp2_with fail
    refine (decode_any i2 _ (by omega) (HKK.out.below B2.out) (HPP.out.below B2.out) (HEE.out.below B2.out)).mono ?_
    rintro e w3 ⟨⟨c, q, rfl, hdc, hac, hic⟩ | ⟨rfl, hdn⟩, hb3⟩
    · have HP := Lib.hid (peek_ok HT.out hdc)
      have HCK := Lib.hid hdc.1
      have X3 := Lib.hid (X2.out.below hb3)
      have Y3 := Lib.hid (X3.out.set (c := c) (p := q))
      have DZ := Lib.hid (ClAt.setBlank hac hdc.1 (b := w.heap.size) X3.out blank_cl (clA c q))
      have IC := Lib.hid hic
      have BZ := Lib.hid (below_setRow (bthen B2.out hb3) (Nat.le_refl w.heap.size) (clA c q))
      clear hdc hac hic hb3
      go_wp2_with (first | (refine store_cl rfl _ rfl _ _ rfl w.heap.size rfl c q rfl cl0 p30 X3 ?_) | fail)
      refine bodyPost_ret (v := .tuple #[clV c q, .int .i64 0]) (res_cl Tryz.results28 _ _ w.heap.size c q _ rfl Y3.out rfl) rfl ⟨?_, BZ.out⟩
      rw [HP.out.1, HP.out.2]
      exact ⟨q, rfl, DZ.out, IC.out⟩
    · have HP := Lib.hid (peek_dec HT.out hdn)
      have X3 := Lib.hid (X2.out.below hb3)
      have Y3 := Lib.hid (X3.out.set (c := cl0) (p := p30))
      have BZ := Lib.hid (below_setRow (bthen B2.out hb3) (Nat.le_refl w.heap.size) (clA cl0 p30))
      obtain ⟨E, HE⟩ : ∃ E, Hid (decE i2 = E) := ⟨_, Lib.hid rfl⟩
      rw [HE.out] at HP
      rw [HE.out]
      clear hdn hb3
      go_wp2_with (first | (refine store_cl rfl _ rfl _ _ rfl w.heap.size rfl cl0 p30 rfl cl0 p30 X3 ?_) | fail)
      refine bodyPost_ret (v := .tuple #[clV cl0 p30, .int .i64 E]) (res_cl Tryz.results28 _ _ w.heap.size cl0 p30 _ rfl Y3.out rfl) rfl ⟨?_, BZ.out⟩
      rw [HP.out.1, HP.out.2]
      exact ⟨p30, rfl, ⟨Strs.nil_ _ _, Strs.nil_ _ _, Strs.nil_ _ _⟩, ClIn.zero⟩
  · have HP := Lib.hid (peek_no hno)
    have X2 := Lib.hid (X1.out.below hb2)
    have Y2 := Lib.hid (X2.out.set (c := cl0) (p := p30))
    have BZ := Lib.hid (below_setRow (bthen B1.out hb2) (Nat.le_refl w.heap.size) (clA cl0 p30))
    clear hno hb2
    go_wp2_with (first | (refine build_cl rfl _ rfl rfl ?_) | (refine store_cl rfl _ rfl _ _ rfl w.heap.size rfl cl0 p30 rfl cl0 p30 X2 ?_) | fail)
    refine bodyPost_ret (v := .tuple #[clV cl0 p30, .int .i64 4]) (res_cl Tryz.results28 _ _ w.heap.size cl0 p30 _ rfl Y2.out rfl) rfl ⟨?_, BZ.out⟩
    rw [HP.out.1, HP.out.2]
    exact ⟨p30, rfl, ⟨Strs.nil_ _ _, Strs.nil_ _ _, Strs.nil_ _ _⟩, ClIn.zero⟩
set_option linter.unusedSimpArgs false in
set_option maxHeartbeats 8000000 in
set_option maxRecDepth 100000 in
theorem rpeek26_any (s : ByteArray) (w : World) (hs : s.size ≤ 1000000) :
    Calls Tryz.prog 29 #[.string s] w fun e w' => RetVc (peekC s) (peekE s) e w' ∧ Below w.heap.size w w' := by
  have B1 : Hid (Below w.heap.size w (w.alloc (clO cl0 p30))) := Lib.hid ((Below.refl _ _).alloc (Nat.le_refl _) _)
  have X1 : Hid (ClBox (w.alloc (clO cl0 p30)) w.heap.size cl0 p30) := Lib.hid (ClBox.new w cl0 p30)
  go_enter Tryz.func29, Tryz.ntmps29
  go_upto_region 1 with (first | (refine alloc_cl rfl _ rfl rfl ?_) | fail)
  go_wp2_with fail
  refine (rsplit26_any s _ hs).mono ?_
  rintro e w2 ⟨⟨i1, i2, i3, rfl, hti, _, hts, _⟩ | ⟨rfl, hno⟩, hb2⟩
  · have HT := Lib.hid hti
    have B2 := Lib.hid (bthen B1.out hb2)
    have X2 := Lib.hid (X1.out.below hb2)
    clear hti hb2
    have hts2 : i2.size ≤ 1000000 := by omega
    clear hts hs
    go_wp2_with fail
    refine (rdecode25_any i2 _ (by omega)).mono ?_
    rintro e w3 ⟨⟨c, q, rfl, hdc, hac, hic⟩ | ⟨rfl, hdn⟩, hb3⟩
    · have HP := Lib.hid (peek_ok HT.out hdc)
      have HCK := Lib.hid hdc.1
      have X3 := Lib.hid (X2.out.below hb3)
      have Y3 := Lib.hid (X3.out.set (c := c) (p := q))
      have DZ := Lib.hid (ClAt.setBlank hac hdc.1 (b := w.heap.size) X3.out blank_cl (clA c q))
      have IC := Lib.hid hic
      have BZ := Lib.hid (below_setRow (bthen B2.out hb3) (Nat.le_refl w.heap.size) (clA c q))
      clear hdc hac hic hb3
      go_wp2_with (first | (refine store_cl rfl _ rfl _ _ rfl w.heap.size rfl c q rfl cl0 p30 X3 ?_) | fail)
      refine bodyPost_ret (v := .tuple #[clV c q, .int .i64 0]) (res_cl Tryz.results29 _ _ w.heap.size c q _ rfl Y3.out rfl) rfl ⟨?_, BZ.out⟩
      rw [HP.out.1, HP.out.2]
      exact ⟨q, rfl, DZ.out, IC.out⟩
    · have HP := Lib.hid (peek_dec HT.out hdn)
      have X3 := Lib.hid (X2.out.below hb3)
      have Y3 := Lib.hid (X3.out.set (c := cl0) (p := p30))
      have BZ := Lib.hid (below_setRow (bthen B2.out hb3) (Nat.le_refl w.heap.size) (clA cl0 p30))
      obtain ⟨E, HE⟩ : ∃ E, Hid (decE i2 = E) := ⟨_, Lib.hid rfl⟩
      rw [HE.out] at HP
      rw [HE.out]
      clear hdn hb3
      go_wp2_with (first | (refine store_cl rfl _ rfl _ _ rfl w.heap.size rfl cl0 p30 rfl cl0 p30 X3 ?_) | fail)
      refine bodyPost_ret (v := .tuple #[clV cl0 p30, .int .i64 E]) (res_cl Tryz.results29 _ _ w.heap.size cl0 p30 _ rfl Y3.out rfl) rfl ⟨?_, BZ.out⟩
      rw [HP.out.1, HP.out.2]
      exact ⟨p30, rfl, ⟨Strs.nil_ _ _, Strs.nil_ _ _, Strs.nil_ _ _⟩, ClIn.zero⟩
  · have HP := Lib.hid (peek_no hno)
    have X2 := Lib.hid (X1.out.below hb2)
    have Y2 := Lib.hid (X2.out.set (c := cl0) (p := p30))
    have BZ := Lib.hid (below_setRow (bthen B1.out hb2) (Nat.le_refl w.heap.size) (clA cl0 p30))
    clear hno hb2
    go_wp2_with (first | (refine build_cl rfl _ rfl rfl ?_) | (refine store_cl rfl _ rfl _ _ rfl w.heap.size rfl cl0 p30 rfl cl0 p30 X2 ?_) | fail)
    refine bodyPost_ret (v := .tuple #[clV cl0 p30, .int .i64 4]) (res_cl Tryz.results29 _ _ w.heap.size cl0 p30 _ rfl Y2.out rfl) rfl ⟨?_, BZ.out⟩
    rw [HP.out.1, HP.out.2]
    exact ⟨p30, rfl, ⟨Strs.nil_ _ _, Strs.nil_ _ _, Strs.nil_ _ _⟩, ClIn.zero⟩
end Go.Proofs.YtiiioefjdebggaaGreatDoor

/- token.Forge and its reference. -/
namespace Go.Proofs.YtiiioefjdebggaaGreatDoor
open Go.RowKit

theorem for_bad {id : ByteArray} {c : Cl} {sum : ByteArray} {E : Int} (h : forE id c sum = E) (h0 : E ≠ 0) : forE id c sum = E ∧ forV id c sum = ⟨#[]⟩ := ⟨h, by rw [forV, if_neg (by rw [h]; exact h0)]; rfl⟩
theorem for_word {id : ByteArray} {c : Cl} {sum : ByteArray} (h : wordS id = false) : forE id c sum = 5 ∧ forV id c sum = ⟨#[]⟩ := for_bad (by rw [forE, if_neg (by rw [h]; decide)]) (by decide)
theorem for_check {id : ByteArray} {c : Cl} {sum : ByteArray} (h : wordS id = true) (h1 : checkE c ≠ 0) : forE id c sum = checkE c ∧ forV id c sum = ⟨#[]⟩ := for_bad (by rw [forE, if_pos h, if_neg h1]) h1
theorem for_hex {id : ByteArray} {c : Cl} {sum : ByteArray} (h : wordS id = true) (h1 : checkE c = 0) (h2 : readHexE sum ≠ 0) : forE id c sum = 4 ∧ forV id c sum = ⟨#[]⟩ := for_bad (by rw [forE, if_pos h, if_pos h1, if_neg h2]) (by decide)
theorem for_enc {id : ByteArray} {c : Cl} {sum : ByteArray} (h : wordS id = true) (h1 : checkE c = 0) (h2 : readHexE sum = 0) (h3 : encE c ≠ 0) : forE id c sum = encE c ∧ forV id c sum = ⟨#[]⟩ := for_bad (by rw [forE, if_pos h, if_pos h1, if_pos h2]) h3
theorem for_ok {id : ByteArray} {c : Cl} {sum : ByteArray} (h : wordS id = true) (h1 : checkE c = 0) (h2 : readHexE sum = 0) (h3 : encE c = 0) : forE id c sum = 0 ∧ forV id c sum = headS id (encV c) ++ ⟨#[46]⟩ ++ sum := by
  have e : forE id c sum = 0 := by rw [forE, if_pos h, if_pos h1, if_pos h2, h3]
  exact ⟨e, by rw [forV, if_pos e]; rfl⟩
/-- A forged token. -/
theorem for_zero {id : ByteArray} {c : Cl} {sum : ByteArray} (h : forE id c sum = 0) : TokIs (forV id c sum) id (encV c) sum ∧ IsDec (encV c) c ∧ (forV id c sum).size ≤ 20000 := by
  rw [forE] at h
  split at h
  · rename_i h1
    split at h
    · rename_i h2
      split at h
      · rename_i h3
        have e := (for_ok h1 h2 h3 h).2
        refine ⟨⟨h1, h3, e⟩, isDec_of h rfl, ?_⟩
        rw [e, ByteArray.size_append, ByteArray.size_append, hex_size h3, headS_size]
        have k1 : (⟨#[46]⟩ : ByteArray).size = 1 := rfl
        have k2 := enc_len h
        rw [wordS, Bool.and_eq_true, decide_eq_true_iff] at h1
        have := h1.1
        omega
      · omega
    · rename_i h2; exact absurd h h2
  · omega
set_option linter.unusedSimpArgs false in
set_option maxHeartbeats 8000000 in
set_option maxRecDepth 100000 in
theorem forge26_any (id : ByteArray) (c : Cl) (p : P3) (sum : ByteArray) (w : World) (hd : DigOk w) (hp : PowOk w) (hk : KeysOk w) (hi : id.size ≤ 1000000) (hs : sum.size ≤ 1000000) (hc : ClAt w c p) (ic : ClIn c p) :
    Calls Tryz.prog 30 #[.string id, clV c p, .string sum] w fun e w' => e = .returned (.tuple #[.string (forV id c sum), .int .i64 (forE id c sum)]) ∧ Below w.heap.size w w' := by
  have B1 : Hid (Below w.heap.size w (w.alloc (clO c p))) := Lib.hid ((Below.refl _ _).alloc (Nat.le_refl _) _)
  have X1 : Hid (ClBox (w.alloc (clO c p)) w.heap.size c p) := Lib.hid (ClBox.new w c p)
  have HC := Lib.hid hc
  have IC := Lib.hid ic
  have HDD := Lib.hid hd
  have HPP := Lib.hid hp
  have HKK := Lib.hid hk
  clear hd hp hk
  have F1 := Lib.hid (@for_word id c sum)
  have F2 := Lib.hid (@for_check id c sum)
  have F3 := Lib.hid (@for_hex id c sum)
  have F4 := Lib.hid (@for_enc id c sum)
  have F5 := Lib.hid (@for_ok id c sum)
  have SL := Lib.hid (@enc_len c)
  obtain ⟨W, HW⟩ : ∃ E, Hid (wordS id = E) := ⟨_, Lib.hid rfl⟩
  obtain ⟨E, HE⟩ : ∃ E, Hid (checkE c = E) := ⟨_, Lib.hid rfl⟩
  obtain ⟨X, HX⟩ : ∃ E, Hid (readHexE sum = E) := ⟨_, Lib.hid rfl⟩
  obtain ⟨G, HG⟩ : ∃ E, Hid (encE c = E) := ⟨_, Lib.hid rfl⟩
  obtain ⟨V, HV⟩ : ∃ E, Hid (encV c = E) := ⟨_, Lib.hid rfl⟩
  rw [HW.out] at F1 F2 F3 F4 F5
  rw [HE.out] at F2 F3 F4 F5
  rw [HX.out] at F3 F4 F5
  rw [HG.out] at F4 F5 SL
  rw [HV.out] at F5 SL
  clear hc ic
  go_enter Tryz.func30, Tryz.ntmps30
  go_upto_region 1 with (first | (refine box_cl rfl _ rfl _ rfl c p rfl ?_) | fail)
  go_wp2_with fail
  refine (word_any id _ (by omega)).mono ?_
  rintro e wsame ⟨rfl, rfl⟩
  rw [HW.out]
  cases W with
  | false =>
    have H1 := Lib.hid (F1.out rfl)
    go_wp2_with fail
    go_ret2
    exact ⟨ret_si0 H1.out.1 H1.out.2, B1.out⟩
  | true =>
    have G2 := Lib.hid (F2.out rfl)
    have G3 := Lib.hid (F3.out rfl)
    have G4 := Lib.hid (F4.out rfl)
    have G5 := Lib.hid (F5.out rfl)
    clear F1 F2 F3 F4 F5
    go_wp2_with (first | (refine load_cl rfl _ rfl _ rfl w.heap.size rfl c p X1 ?_) | fail)
    refine (check_any c p _ IC.out (HC.out.below B1.out)).mono ?_
    rintro e w2 ⟨rfl, hb2⟩
    rw [HE.out]
    have B2 := Lib.hid (bthen B1.out hb2)
    have X2 := Lib.hid (X1.out.below hb2)
    clear hb2
    by_cases h1 : E = 0
    · have hEb : (E == 0) = true := by rw [h1]; rfl
      have hEn : (E != 0) = false := by rw [h1]; rfl
      have K3 := Lib.hid (G3.out h1)
      have K4 := Lib.hid (G4.out h1)
      have K5 := Lib.hid (G5.out h1)
      clear G2 G3 G4 G5 h1
      go_wp2_with fail
      refine (readhex_any sum _ (HDD.out.below B2.out) (by omega)).mono ?_
      rintro e wsame ⟨rfl, rfl⟩
      rw [HX.out]
      by_cases h2 : X = 0
      · have hXb : (X == 0) = true := by rw [h2]; rfl
        have hXn : (X != 0) = false := by rw [h2]; rfl
        have L4 := Lib.hid (K4.out h2)
        have L5 := Lib.hid (K5.out h2)
        clear K3 K4 K5 h2
        go_wp2_with (first | (refine load_cl rfl _ rfl _ rfl w.heap.size rfl c p X2 ?_) | fail)
        refine (encode_any c p _ IC.out (HC.out.below B2.out) (HKK.out.below B2.out) (HPP.out.below B2.out)).mono ?_
        rintro e w3 ⟨rfl, hb3⟩
        rw [HG.out, HV.out]
        have B3 := Lib.hid (bthen B2.out hb3)
        clear hb3
        by_cases h3 : G = 0
        · have hGb : (G == 0) = true := by rw [h3]; rfl
          have hGn : (G != 0) = false := by rw [h3]; rfl
          have H5 := Lib.hid (L5.out h3)
          have hvz := SL.out h3
          clear L4 L5 h3
          have hhz := headS_size id V
          have HB := Lib.hid (fun w => head_any id V w (by omega) (by omega))
          obtain ⟨Q, HQ⟩ : ∃ E, Hid (headS id V = E) := ⟨_, Lib.hid rfl⟩
          rw [HQ.out] at HB hhz H5
          have z1 : (Q ++ ⟨#[46]⟩).size = Q.size + 1 := by rw [ByteArray.size_append]; rfl
          go_wp2_with fail
          refine (Calls.mono (HB.out _) ?_)
          rintro e w4 ⟨rfl, hb4⟩
          have B4 := Lib.hid (bthen B3.out hb4)
          clear HB hb4
          go_wp2_with fail
          go_ret2
          exact ⟨ret_si H5.out.2.symm H5.out.1.symm, B4.out⟩
        · have hGb : (G == 0) = false := by simpa using h3
          have hGn : (G != 0) = true := by simpa using h3
          have H4 := Lib.hid (L4.out h3)
          clear h3
          go_wp2_with fail
          go_ret2
          exact ⟨ret_si0 H4.out.1 H4.out.2, B3.out⟩
      · have hXb : (X == 0) = false := by simpa using h2
        have hXn : (X != 0) = true := by simpa using h2
        have H3 := Lib.hid (K3.out h2)
        clear h2
        go_wp2_with fail
        go_ret2
        exact ⟨ret_si0 H3.out.1 H3.out.2, B2.out⟩
    · have hEb : (E == 0) = false := by simpa using h1
      have hEn : (E != 0) = true := by simpa using h1
      have H2 := Lib.hid (G2.out h1)
      clear h1
      go_wp2_with fail
      go_ret2
      exact ⟨ret_si0 H2.out.1 H2.out.2, B2.out⟩
set_option linter.unusedSimpArgs false in
set_option maxHeartbeats 8000000 in
set_option maxRecDepth 100000 in
theorem rforge26_any (id : ByteArray) (c : Cl) (p : P3) (sum : ByteArray) (w : World) (hi : id.size ≤ 1000000) (hs : sum.size ≤ 1000000) (hc : ClAt w c p) (ic : ClIn c p) :
    Calls Tryz.prog 31 #[.string id, clV c p, .string sum] w fun e w' => e = .returned (.tuple #[.string (forV id c sum), .int .i64 (forE id c sum)]) ∧ Below w.heap.size w w' := by
  have B1 : Hid (Below w.heap.size w (w.alloc (clO c p))) := Lib.hid ((Below.refl _ _).alloc (Nat.le_refl _) _)
  have X1 : Hid (ClBox (w.alloc (clO c p)) w.heap.size c p) := Lib.hid (ClBox.new w c p)
  have HC := Lib.hid hc
  have IC := Lib.hid ic
  have F1 := Lib.hid (@for_word id c sum)
  have F2 := Lib.hid (@for_check id c sum)
  have F3 := Lib.hid (@for_hex id c sum)
  have F4 := Lib.hid (@for_enc id c sum)
  have F5 := Lib.hid (@for_ok id c sum)
  have SL := Lib.hid (@enc_len c)
  obtain ⟨W, HW⟩ : ∃ E, Hid (wordS id = E) := ⟨_, Lib.hid rfl⟩
  obtain ⟨E, HE⟩ : ∃ E, Hid (checkE c = E) := ⟨_, Lib.hid rfl⟩
  obtain ⟨X, HX⟩ : ∃ E, Hid (readHexE sum = E) := ⟨_, Lib.hid rfl⟩
  obtain ⟨G, HG⟩ : ∃ E, Hid (encE c = E) := ⟨_, Lib.hid rfl⟩
  obtain ⟨V, HV⟩ : ∃ E, Hid (encV c = E) := ⟨_, Lib.hid rfl⟩
  rw [HW.out] at F1 F2 F3 F4 F5
  rw [HE.out] at F2 F3 F4 F5
  rw [HX.out] at F3 F4 F5
  rw [HG.out] at F4 F5 SL
  rw [HV.out] at F5 SL
  clear hc ic
  go_enter Tryz.func31, Tryz.ntmps31
  go_upto_region 1 with (first | (refine box_cl rfl _ rfl _ rfl c p rfl ?_) | fail)
  go_wp2_with fail
  refine (rword_any id _ (by omega)).mono ?_
  rintro e wsame ⟨rfl, rfl⟩
  rw [HW.out]
  cases W with
  | false =>
    have H1 := Lib.hid (F1.out rfl)
    go_wp2_with fail
    go_ret2
    exact ⟨ret_si0 H1.out.1 H1.out.2, B1.out⟩
  | true =>
    have G2 := Lib.hid (F2.out rfl)
    have G3 := Lib.hid (F3.out rfl)
    have G4 := Lib.hid (F4.out rfl)
    have G5 := Lib.hid (F5.out rfl)
    clear F1 F2 F3 F4 F5
    go_wp2_with (first | (refine load_cl rfl _ rfl _ rfl w.heap.size rfl c p X1 ?_) | fail)
    refine (rcheck_any c p _ IC.out (HC.out.below B1.out)).mono ?_
    rintro e w2 ⟨rfl, hb2⟩
    rw [HE.out]
    have B2 := Lib.hid (bthen B1.out hb2)
    have X2 := Lib.hid (X1.out.below hb2)
    clear hb2
    by_cases h1 : E = 0
    · have hEb : (E == 0) = true := by rw [h1]; rfl
      have hEn : (E != 0) = false := by rw [h1]; rfl
      have K3 := Lib.hid (G3.out h1)
      have K4 := Lib.hid (G4.out h1)
      have K5 := Lib.hid (G5.out h1)
      clear G2 G3 G4 G5 h1
      go_wp2_with fail
      refine (rreadhex_any sum _ (by omega)).mono ?_
      rintro e wsame ⟨rfl, rfl⟩
      rw [HX.out]
      by_cases h2 : X = 0
      · have hXb : (X == 0) = true := by rw [h2]; rfl
        have hXn : (X != 0) = false := by rw [h2]; rfl
        have L4 := Lib.hid (K4.out h2)
        have L5 := Lib.hid (K5.out h2)
        clear K3 K4 K5 h2
        go_wp2_with (first | (refine load_cl rfl _ rfl _ rfl w.heap.size rfl c p X2 ?_) | fail)
        refine (rencode_any c p _ IC.out (HC.out.below B2.out)).mono ?_
        rintro e w3 ⟨rfl, hb3⟩
        rw [HG.out, HV.out]
        have B3 := Lib.hid (bthen B2.out hb3)
        clear hb3
        by_cases h3 : G = 0
        · have hGb : (G == 0) = true := by rw [h3]; rfl
          have hGn : (G != 0) = false := by rw [h3]; rfl
          have H5 := Lib.hid (L5.out h3)
          have hvz := SL.out h3
          clear L4 L5 h3
          obtain ⟨Q, HQ⟩ : ∃ E, Hid (b64S V = E) := ⟨_, Lib.hid rfl⟩
          have hqz := b64S_size V
          have HB := Lib.hid (fun w => rbase64_any V w (by omega))
          rw [headS, HQ.out] at H5
          rw [HQ.out] at HB hqz
          have z1 : (id ++ ⟨#[46]⟩).size = id.size + 1 := by rw [ByteArray.size_append]; rfl
          have z2 : (id ++ ⟨#[46]⟩ ++ Q).size = id.size + 1 + Q.size := by rw [ByteArray.size_append, z1]
          have z3 : (id ++ ⟨#[46]⟩ ++ Q ++ ⟨#[46]⟩).size = id.size + 1 + Q.size + 1 := by rw [ByteArray.size_append, z2]; rfl
          go_wp2_with fail
          refine (Calls.mono (HB.out _) ?_)
          rintro e w4 ⟨rfl, hb4⟩
          have B4 := Lib.hid (bthen B3.out hb4)
          clear HB hb4
          go_wp2_with fail
          go_ret2
          exact ⟨ret_si H5.out.2.symm H5.out.1.symm, B4.out⟩
        · have hGb : (G == 0) = false := by simpa using h3
          have hGn : (G != 0) = true := by simpa using h3
          have H4 := Lib.hid (L4.out h3)
          clear h3
          go_wp2_with fail
          go_ret2
          exact ⟨ret_si0 H4.out.1 H4.out.2, B3.out⟩
      · have hXb : (X == 0) = false := by simpa using h2
        have hXn : (X != 0) = true := by simpa using h2
        have H3 := Lib.hid (K3.out h2)
        clear h2
        go_wp2_with fail
        go_ret2
        exact ⟨ret_si0 H3.out.1 H3.out.2, B2.out⟩
    · have hEb : (E == 0) = false := by simpa using h1
      have hEn : (E != 0) = true := by simpa using h1
      have H2 := Lib.hid (G2.out h1)
      clear h1
      go_wp2_with fail
      go_ret2
      exact ⟨ret_si0 H2.out.1 H2.out.2, B2.out⟩
end Go.Proofs.YtiiioefjdebggaaGreatDoor

