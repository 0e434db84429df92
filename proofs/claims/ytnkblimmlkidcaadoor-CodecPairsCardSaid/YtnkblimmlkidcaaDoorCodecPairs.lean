/- CodecPairs: for every list of pairs the law answers true and leaves its argument alone; no condition. -/
import Derived.Lay
import Derived.Test.YtnkblimmlkidcaaDoorCards
import Derived.Test.YtnkblimmlkidcaaDoorTie
import Derived.Test.YtnkblimmlkidcaaDoorCodLaid
import Derived.Test.YtnkblimmlkidcaaDoorCodLive
import Derived.Test.YtnkblimmlkidcaaDoorCodLen
import Derived.Test.YtnkblimmlkidcaaDoorCodRPairs
import Derived.Test.YtnkblimmlkidcaaDoorCodSameP
import Derived.Test.YtnkblimmlkidcaaDoorOpenPairs
namespace Go.Proofs.YtnkblimmlkidcaaDoor.codecPairs
open Go.ChangeShapes Go.WideShapes Go.ChangeAt Go.RowKit
open Go.ChangeMaps (open_string)


set_option maxHeartbeats 4000000 in
theorem walk (l : List (ByteArray × ByteArray)) (A : Option Addr) (c : Nat) (w : World) (hp : PowOk w) (hE : ErrsOk w) (hS0 : PairsAt w A l) (hl : l.length ≤ 9223372036854775807) :
    Calls Tryd.prog 7 #[.slice A l.length c] w fun e w' => e = .returned (.bool true) ∧ Below w.heap.size w w' := by
  have B0 := Lib.hid (Below.refl w.heap.size w)
  have hS := Lib.hid hS0
  clear hS0
  by_cases h10 : 10 < l.length
  ·
    go_enter Tryd.func7, Tryd.ntmps7
    go_wp2_with fail
    refine (live_any _ (hp.below B0.out) (hE.below B0.out)).mono ?_
    rintro e w1 ⟨rfl, hb1⟩
    have B1 := Lib.hid (bthen B0.out hb1)
    have G1 := Lib.hid hb1
    clear hb1
    go_wp2_with fail
    go_ret
    exact ⟨rfl, B1.out⟩
  · have hl6 : l.length ≤ 1000000 := by omega
    go_enter Tryd.func7, Tryd.ntmps7
    go_wp2_with fail
    go_loop [3, 12] (fun _ i => ∃ k : Nat, k ≤ l.length ∧ i = .int .i64 k ∧ Hid (∀ p ∈ l.take k, p.1.size ≤ 100 ∧ p.2.size ≤ 100)) (fun _ i => l.length - (intOf i).toNat)
    case atStart => exact ⟨0, Nat.zero_le _, rfl, Lib.hid (fun p hp => by simp at hp)⟩
    case round =>
      obtain ⟨k, hk, rfl, HZ0⟩ := hrel
      by_cases hlt : k < l.length
      · obtain ⟨b, o, rfl, c1, c2⟩ := hS.out k hlt
        have HT : Hid (l.take (k + 1) = l.take k ++ [l[k]]) := by show _ = _; rw [List.take_succ_eq_append_getElem hlt]
        generalize l[k] = p at *
        obtain ⟨x, y⟩ := p
        have c1' : w.cell? ⟨b, o + k * 2, none⟩ = some (.string x) := c1
        have c2' : w.cell? ⟨b, o + k * 2 + 1, none⟩ = some (.string y) := c2
        clear c1 c2
        by_cases h1 : 100 < x.size
        · go_wp2_with fail
          refine (live_any _ hp hE).mono ?_
          rintro e w1 ⟨rfl, hb1⟩
          go_wp2_with fail
          go_ret
          exact ⟨rfl, hb1⟩
        · by_cases h2 : 100 < y.size
          · go_wp2_with fail
            refine (live_any _ hp hE).mono ?_
            rintro e w1 ⟨rfl, hb1⟩
            go_wp2_with fail
            go_ret
            exact ⟨rfl, hb1⟩
          · have HZ1 : Hid (∀ p ∈ l.take (k + 1), p.1.size ≤ 100 ∧ p.2.size ≤ 100) := by
              show ∀ p ∈ _, _
              intro p hp
              rw [HT.out, List.mem_append, List.mem_singleton] at hp
              rcases hp with hp | rfl
              · exact HZ0.out p hp
              · exact ⟨by show x.size ≤ 100; omega, by show y.size ≤ 100; omega⟩
            go_wp2_with fail
            go_round
            case rel => exact ⟨k + 1, by omega, by go_num, HZ1⟩
            case measure => simp [intOf]; omega
      · have hz1 : ∀ p ∈ l, p.1.size ≤ 100 ∧ p.2.size ≤ 100 := by
          have h := HZ0.out
          rwa [List.take_of_length_le (by omega)] at h
        have HJ : Hid ((pairsS l).size ≤ 1000000) := Lib.hid (by have := pairsS_le l 100 hz1; omega)
        have HZ : Hid (∀ p ∈ l, p.1.size ≤ 150000 ∧ p.2.size ≤ 150000) := Lib.hid (fun p hp => by have := hz1 p hp; omega)
        have HK := Lib.hid (rp_some (readPairs_pairsS l))
        clear hz1
        go_wp2_with fail
        refine (cpairs_any l A c _ (hS.out.below B0.out) hl6 HZ.out).mono ?_
        rintro e w1 ⟨rfl, hb1⟩
        have B1 := Lib.hid (bthen B0.out hb1)
        have G1 := Lib.hid hb1
        clear hb1
        go_wp2_with fail
        refine (creadPairs_any (pairsS l) _ HJ.out).mono ?_
        rintro e w2 ⟨hr2, hb2⟩
        rw [HK.out.1, HK.out.2] at hr2
        obtain ⟨A2, c2, rfl, hq, _, _⟩ := hr2
        have HS2 := Lib.hid hq
        clear hq
        have B2 := Lib.hid (bthen B1.out hb2)
        have G2 := Lib.hid hb2
        clear hb2
        go_wp2_with fail
        refine (cpairs_any l A c _ (hS.out.below B2.out) hl6 HZ.out).mono ?_
        rintro e w3 ⟨rfl, hb3⟩
        have B3 := Lib.hid (bthen B2.out hb3)
        have G3 := Lib.hid hb3
        clear hb3
        go_wp2_with fail
        refine (rpairs_any l A c _ (hS.out.below B3.out) hl6 HZ.out).mono ?_
        rintro e w4 ⟨rfl, hb4⟩
        have B4 := Lib.hid (bthen B3.out hb4)
        have G4 := Lib.hid hb4
        clear hb4
        go_wp2_with fail
        refine (samep_any l l A2 A c2 c _ ((HS2.out.below G3.out).below G4.out) (hS.out.below B4.out) hl6 hl6).mono ?_
        rintro e w5 ⟨rfl, hb5⟩
        have B5 := Lib.hid (bthen B4.out hb5)
        have G5 := Lib.hid hb5
        clear hb5
        go_wp2_with fail
        refine (live_any _ (hp.below B5.out) (hE.below B5.out)).mono ?_
        rintro e w6 ⟨rfl, hb6⟩
        have B6 := Lib.hid (bthen B5.out hb6)
        have G6 := Lib.hid hb6
        clear hb6
        go_wp2_with fail
        go_ret
        exact ⟨rfl, B6.out⟩

set_option maxRecDepth 100000 in
/-- What the walk gives, for every argument and every world that holds the listed variables. -/
theorem contract (H : Type) (enc : TypeId × Value → H) (W : World) (base : Nat) (args : Array Value) (ds gs : List (DataW H)) (before : List MemPlace)
    (hval : ∀ (j : Nat) t v, Tryd.f7.params[j]? = some t → args[j]? = some v → Value.okWide Tryd.prog W .any base t v)
    (hW : DataW.Whole enc Tryd.prog Tryd.f7.params.toList Rows.codecPairsSpec.vars false W args.toList ds gs before) (hL : laidMetH Tryd.prog Rows.codecPairsRow.laid W) :
    Calls Tryd.prog 7 args W fun e W' => ∃ v, e = .returned v ∧ Rows.codecPairsSpec.post enc Tryd.prog Tryd.f7 false true false false W args v W' := by
  have hW' := hW
  obtain ⟨p, q, hA0, hV, rfl, hfz, hnd⟩ := hW
  obtain ⟨rfl, rfl⟩ := trodVars_none hV
  have hA1 : DataW.TrodAll enc Tryd.prog W 0 (fun _ => true) true Tryd.f7.params.toList args.toList ds (p ++ []) := by rw [List.append_nil]; exact hA0
  have hA : DataW.TrodAll enc Tryd.prog W 0 (fun _ => true) true Tryd.f7.params.toList args.toList ds p := hA0
  rw [Tryd.params7] at hA hval
  obtain ⟨v0, vs0, d0, ds0, p0, q0, hargs, rfl, rfl, h0, r0⟩ := trodAll_cons hA
  obtain ⟨rfl, rfl, rfl⟩ := trodAll_nil r0
  obtain rfl : args = #[v0] := by cases args; simp_all
  obtain ⟨A0, l0, c0, rfl, hS0, hc0, hl0, hz0⟩ := open_prl Tryd.underlying35 Tryd.underlying37 (by kernel_rfl) rfl rfl Tryd.underlying9 Tryd.underlying9 (by kernel_rfl) (by kernel_rfl) (hval 0 35 v0 rfl rfl) h0
  obtain ⟨hp, hE⟩ := laid_tabs hL
  refine (walk l0 A0 c0 W hp hE hS0 hl0).mono fun e W' ⟨he, hb⟩ => ?_
  subst he
  exact ⟨_, rfl, law_post laidOut (by kernel_rfl) (by kernel_rfl) Tryd.underlying4 hW' rfl rfl hA1 hb⟩

set_option maxRecDepth 100000 in
theorem reads (w : World) {H : Type} (enc : TypeId × Value → H) : ∃ places, DataW.whole enc Tryd.prog w Tryd.f7.params.toList Rows.codecPairsSpec.vars false #[Value.slice none 0 0].toList 8 = some ([.nil], [], places) :=
  ⟨[], by kernel_rfl⟩
theorem args_ok (w : World) : Input.okWideB Tryd.prog w 7 ⟨#[], #[.slice none 0 0], []⟩ = true := by kernel_rfl
set_option maxRecDepth 100000 in
theorem lifted (os : Os) (started : os.Started) (H : Type) (enc : TypeId × Value → H) (F : Stop.Interp) :
    ReturnsInHanded {} Tryd.checked os 7 .any ((OpenSpec.ofChange Rows.codecPairsSpec).preRow enc Tryd.prog Tryd.f7 Rows.codecPairsRow.domain false Rows.codecPairsRow.laid) (((OpenSpec.ofChange Rows.codecPairsSpec).at F).post enc Tryd.prog Tryd.f7 false true false false) := by
  obtain ⟨places, hx⟩ := reads _ enc
  refine returnsInHanded_of_row (C := Tryd.checked) (s := OpenSpec.ofChange Rows.codecPairsSpec) own started (by kernel_rfl) Tryd.func7
    (witness_row_at (enc := enc) (C := Tryd.checked) false (World.laidAll Tryd.prog os laidList) #[.slice none 0 0] (World.laidAll_os _ _ _) (w_hv os _) (w_hr os _) (args_ok _)
      (OpenSpec.preRow_of_cond 8 hx (by kernel_rfl) (fun k hk => by cases hk) (by kernel_rfl) (w_laid os _))) ?_
  intro W base args ds gs before hval hW _ _ _ hL _ _
  exact contract H enc W base args ds gs before hval hW hL

theorem said : Rows.CodecPairsSaid :=
  OpenClaim.holds_of_cond 7 Tryd.f7 rfl rfl rfl rfl rfl rfl rfl ⟨rfl, rfl, rfl, rfl, rfl⟩ rfl rfl rfl rfl rfl (by kernel_rfl) Tryd.func7 (by kernel_rfl)
    (of_decide_eq_true (by kernel_rfl)) (by unfold Func.isWrapper; first | (rw [if_pos (by decide +kernel)]; kernel_rfl) | (rw [if_neg (by decide +kernel)]; exact ⟨rfl, rfl⟩))
    (fun os started H enc _ F => by rw [OpenClaim.pre_eq_preRow]; exact lifted os started H enc F)

theorem plain (f : FuncId) (fn : Func) (hf : Tryd.pinned.checked.prog.funcNamed Rows.codecPairsRow.func = some f) (hfn : Tryd.pinned.checked.prog.funcs[f]? = some fn) :
    true = Tryd.pinned.checked.prog.looks [] ∧ ∀ (j : Nat) t, fn.params[j]? = some t → Tryd.pinned.checked.prog.wantsStandIn t = false := by
  obtain rfl : f = 7 := Option.some.inj ((show Tryd.prog.funcNamed Rows.codecPairsRow.func = some 7 by kernel_rfl).symm.trans hf) |>.symm
  obtain rfl : fn = Tryd.f7 := (Option.some.inj (Tryd.func7.symm.trans hfn)).symm
  refine ⟨by kernel_rfl, fun j t ht => ?_⟩
  rw [Tryd.params7] at ht
  have hm : t ∈ [35] := by simpa using Array.mem_of_getElem? ht
  have hall : ([35].all fun u => !Tryd.prog.wantsStandIn u) = true := by kernel_rfl
  exact (show Tryd.prog.wantsStandIn t = false by simpa using List.all_eq_true.1 hall t hm)

theorem card : Rows.CodecPairsCardSaid :=
  Claim7.holds_tied_plain_at .later [] _ _ _ _ said (fun _ h => by cases h) (by kernel_rfl) (fun _ h => by cases h) codecPairs_row_tie rfl ⟨rfl, rfl⟩ (by kernel_rfl) rfl plain (by kernel_rfl)
end Go.Proofs.YtnkblimmlkidcaaDoor.codecPairs
