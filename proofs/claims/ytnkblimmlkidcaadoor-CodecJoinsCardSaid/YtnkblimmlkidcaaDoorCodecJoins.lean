/- CodecJoins: for every two lists of strings the law answers true and leaves its arguments alone; no condition. -/
import Derived.Lay
import Derived.Test.YtnkblimmlkidcaaDoorCards
import Derived.Test.YtnkblimmlkidcaaDoorTie
import Derived.Test.YtnkblimmlkidcaaDoorCodLaid
import Derived.Test.YtnkblimmlkidcaaDoorCodLive
import Derived.Test.YtnkblimmlkidcaaDoorCodLen
import Derived.Test.YtnkblimmlkidcaaDoorCodRJoin
import Derived.Test.YtnkblimmlkidcaaDoorCodSame
import Derived.Test.YtnkblimmlkidcaaDoorOpenStrs
namespace Go.Proofs.YtnkblimmlkidcaaDoor.codecJoins
open Go.ChangeShapes Go.WideShapes Go.ChangeAt Go.RowKit
open Go.ChangeMaps (open_string)


set_option maxHeartbeats 4000000 in
theorem walk (l m : List ByteArray) (A B : Option Addr) (c d : Nat) (w : World) (hp : PowOk w) (hE : ErrsOk w) (hS0 : Strs w A l) (hT0 : Strs w B m) (hl : l.length ≤ 9223372036854775807) (hm : m.length ≤ 9223372036854775807) :
    Calls Tryd.prog 5 #[.slice A l.length c, .slice B m.length d] w fun e w' => e = .returned (.bool true) ∧ Below w.heap.size w w' := by
  have B0 := Lib.hid (Below.refl w.heap.size w)
  have hS := Lib.hid hS0
  have hT := Lib.hid hT0
  clear hS0 hT0
  have hcs : greatB l 12 100 = true ∨ (greatB l 12 100 = false ∧ greatB m 12 100 = true) ∨ (greatB l 12 100 = false ∧ greatB m 12 100 = false) := by
    cases greatB l 12 100 <;> cases greatB m 12 100 <;> simp
  rcases hcs with hg | ⟨hg, hg2⟩ | ⟨hg, hg2⟩
  ·
    go_enter Tryd.func5, Tryd.ntmps5
    go_wp2_with fail
    refine (great_any l 12 100 A c w hS.out hl).mono ?_
    rintro e wsame ⟨rfl, rfl⟩
    rw [hg]
    clear hg
    go_wp2_with fail
    refine (live_any _ (hp.below B0.out) (hE.below B0.out)).mono ?_
    rintro e w1 ⟨rfl, hb1⟩
    have B1 := Lib.hid (bthen B0.out hb1)
    have G1 := Lib.hid hb1
    clear hb1
    go_wp2_with fail
    go_ret
    exact ⟨rfl, B1.out⟩
  ·
    go_enter Tryd.func5, Tryd.ntmps5
    go_wp2_with fail
    refine (great_any l 12 100 A c w hS.out hl).mono ?_
    rintro e wsame ⟨rfl, rfl⟩
    rw [hg]
    clear hg
    go_wp2_with fail
    refine (great_any m 12 100 B d w hT.out hm).mono ?_
    rintro e wsame ⟨rfl, rfl⟩
    rw [hg2]
    clear hg2
    go_wp2_with fail
    refine (live_any _ (hp.below B0.out) (hE.below B0.out)).mono ?_
    rintro e w1 ⟨rfl, hb1⟩
    have B1 := Lib.hid (bthen B0.out hb1)
    have G1 := Lib.hid hb1
    clear hb1
    go_wp2_with fail
    go_ret
    exact ⟨rfl, B1.out⟩
  · obtain ⟨n1, z1⟩ := great_small hg
    obtain ⟨n2, z2⟩ := great_small hg2
    have HJ := Lib.hid (joinS_le l 100 z1)
    have hl6 : l.length ≤ 1000000 := by omega
    have hm6 : m.length ≤ 1000000 := by omega
    have HZ : Hid (∀ s ∈ l, s.size ≤ 300000) := Lib.hid (fun s hs => by have := z1 s hs; omega)
    have HY : Hid (∀ s ∈ m, s.size ≤ 300000) := Lib.hid (fun s hs => by have := z2 s hs; omega)
    have HK := Lib.hid (split_some (split_joinS l))
    clear z1 z2
    by_cases he : l = m
    · have HEQ : Hid (decide (l = m) = true) := Lib.hid (by simp [he])
      have hq : ((joinS l).toList == (joinS m).toList) = true := by rw [he]; simp
      clear he
      go_enter Tryd.func5, Tryd.ntmps5
      go_wp2_with fail
      refine (great_any l 12 100 A c w hS.out hl).mono ?_
      rintro e wsame ⟨rfl, rfl⟩
      rw [hg]
      clear hg
      go_wp2_with fail
      refine (great_any m 12 100 B d w hT.out hm).mono ?_
      rintro e wsame ⟨rfl, rfl⟩
      rw [hg2]
      clear hg2
      go_wp2_with fail
      refine (cjoin_any l A c _ (hS.out.below B0.out) hl6 HZ.out).mono ?_
      rintro e w1 ⟨rfl, hb1⟩
      have B1 := Lib.hid (bthen B0.out hb1)
      have G1 := Lib.hid hb1
      clear hb1
      go_wp2_with fail
      refine (csplit_any (joinS l) _ (by have := HJ.out; omega)).mono ?_
      rintro e w2 ⟨hr2, hb2⟩
      rw [HK.out.1, HK.out.2] at hr2
      obtain ⟨A2, c2, rfl, hq, _, _⟩ := hr2
      have HS2 := Lib.hid hq
      clear hq
      have B2 := Lib.hid (bthen B1.out hb2)
      have G2 := Lib.hid hb2
      clear hb2
      go_wp2_with fail
      refine (cjoin_any l A c _ (hS.out.below B2.out) hl6 HZ.out).mono ?_
      rintro e w3 ⟨rfl, hb3⟩
      have B3 := Lib.hid (bthen B2.out hb3)
      have G3 := Lib.hid hb3
      clear hb3
      go_wp2_with fail
      refine (rjoin_any l A c _ (hS.out.below B3.out) hl6 HZ.out).mono ?_
      rintro e w4 ⟨rfl, hb4⟩
      have B4 := Lib.hid (bthen B3.out hb4)
      have G4 := Lib.hid hb4
      clear hb4
      go_wp2_with fail
      refine (same2_any l l A2 A c2 c _ ((HS2.out.below G3.out).below G4.out) (hS.out.below B4.out) hl6 hl6).mono ?_
      rintro e w5 ⟨rfl, hb5⟩
      have B5 := Lib.hid (bthen B4.out hb5)
      have G5 := Lib.hid hb5
      clear hb5
      go_wp2_with fail
      refine (cjoin_any l A c _ (hS.out.below B5.out) hl6 HZ.out).mono ?_
      rintro e w6 ⟨rfl, hb6⟩
      have B6 := Lib.hid (bthen B5.out hb6)
      have G6 := Lib.hid hb6
      clear hb6
      go_wp2_with fail
      refine (cjoin_any m B d _ (hT.out.below B6.out) hm6 HY.out).mono ?_
      rintro e w7 ⟨rfl, hb7⟩
      have B7 := Lib.hid (bthen B6.out hb7)
      have G7 := Lib.hid hb7
      clear hb7
      go_wp2_with fail
      refine (same2_any l m A B c d _ (hS.out.below B7.out) (hT.out.below B7.out) hl6 hm6).mono ?_
      rintro e w8 ⟨rfl, hb8⟩
      rw [HEQ.out]
      have B8 := Lib.hid (bthen B7.out hb8)
      have G8 := Lib.hid hb8
      clear hb8
      go_wp2_with fail
      refine (live_any _ (hp.below B8.out) (hE.below B8.out)).mono ?_
      rintro e w9 ⟨rfl, hb9⟩
      have B9 := Lib.hid (bthen B8.out hb9)
      have G9 := Lib.hid hb9
      clear hb9
      go_wp2_with fail
      go_ret
      exact ⟨rfl, B9.out⟩
    · have HEQ : Hid (decide (l = m) = false) := Lib.hid (by simp [he])
      have hq : ((joinS l).toList == (joinS m).toList) = false := str_ne (fun h => he (joinS_inj h))
      clear he
      go_enter Tryd.func5, Tryd.ntmps5
      go_wp2_with fail
      refine (great_any l 12 100 A c w hS.out hl).mono ?_
      rintro e wsame ⟨rfl, rfl⟩
      rw [hg]
      clear hg
      go_wp2_with fail
      refine (great_any m 12 100 B d w hT.out hm).mono ?_
      rintro e wsame ⟨rfl, rfl⟩
      rw [hg2]
      clear hg2
      go_wp2_with fail
      refine (cjoin_any l A c _ (hS.out.below B0.out) hl6 HZ.out).mono ?_
      rintro e w1 ⟨rfl, hb1⟩
      have B1 := Lib.hid (bthen B0.out hb1)
      have G1 := Lib.hid hb1
      clear hb1
      go_wp2_with fail
      refine (csplit_any (joinS l) _ (by have := HJ.out; omega)).mono ?_
      rintro e w2 ⟨hr2, hb2⟩
      rw [HK.out.1, HK.out.2] at hr2
      obtain ⟨A2, c2, rfl, hq, _, _⟩ := hr2
      have HS2 := Lib.hid hq
      clear hq
      have B2 := Lib.hid (bthen B1.out hb2)
      have G2 := Lib.hid hb2
      clear hb2
      go_wp2_with fail
      refine (cjoin_any l A c _ (hS.out.below B2.out) hl6 HZ.out).mono ?_
      rintro e w3 ⟨rfl, hb3⟩
      have B3 := Lib.hid (bthen B2.out hb3)
      have G3 := Lib.hid hb3
      clear hb3
      go_wp2_with fail
      refine (rjoin_any l A c _ (hS.out.below B3.out) hl6 HZ.out).mono ?_
      rintro e w4 ⟨rfl, hb4⟩
      have B4 := Lib.hid (bthen B3.out hb4)
      have G4 := Lib.hid hb4
      clear hb4
      go_wp2_with fail
      refine (same2_any l l A2 A c2 c _ ((HS2.out.below G3.out).below G4.out) (hS.out.below B4.out) hl6 hl6).mono ?_
      rintro e w5 ⟨rfl, hb5⟩
      have B5 := Lib.hid (bthen B4.out hb5)
      have G5 := Lib.hid hb5
      clear hb5
      go_wp2_with fail
      refine (cjoin_any l A c _ (hS.out.below B5.out) hl6 HZ.out).mono ?_
      rintro e w6 ⟨rfl, hb6⟩
      have B6 := Lib.hid (bthen B5.out hb6)
      have G6 := Lib.hid hb6
      clear hb6
      go_wp2_with fail
      refine (cjoin_any m B d _ (hT.out.below B6.out) hm6 HY.out).mono ?_
      rintro e w7 ⟨rfl, hb7⟩
      have B7 := Lib.hid (bthen B6.out hb7)
      have G7 := Lib.hid hb7
      clear hb7
      go_wp2_with fail
      refine (same2_any l m A B c d _ (hS.out.below B7.out) (hT.out.below B7.out) hl6 hm6).mono ?_
      rintro e w8 ⟨rfl, hb8⟩
      rw [HEQ.out]
      have B8 := Lib.hid (bthen B7.out hb8)
      have G8 := Lib.hid hb8
      clear hb8
      go_wp2_with fail
      refine (live_any _ (hp.below B8.out) (hE.below B8.out)).mono ?_
      rintro e w9 ⟨rfl, hb9⟩
      have B9 := Lib.hid (bthen B8.out hb9)
      have G9 := Lib.hid hb9
      clear hb9
      go_wp2_with fail
      go_ret
      exact ⟨rfl, B9.out⟩

set_option maxRecDepth 100000 in
/-- What the walk gives, for every argument and every world that holds the listed variables. -/
theorem contract (H : Type) (enc : TypeId × Value → H) (W : World) (base : Nat) (args : Array Value) (ds gs : List (DataW H)) (before : List MemPlace)
    (hval : ∀ (j : Nat) t v, Tryd.f5.params[j]? = some t → args[j]? = some v → Value.okWide Tryd.prog W .any base t v)
    (hW : DataW.Whole enc Tryd.prog Tryd.f5.params.toList Rows.codecJoinsSpec.vars false W args.toList ds gs before) (hL : laidMetH Tryd.prog Rows.codecJoinsRow.laid W) :
    Calls Tryd.prog 5 args W fun e W' => ∃ v, e = .returned v ∧ Rows.codecJoinsSpec.post enc Tryd.prog Tryd.f5 false true false false W args v W' := by
  have hW' := hW
  obtain ⟨p, q, hA0, hV, rfl, hfz, hnd⟩ := hW
  obtain ⟨rfl, rfl⟩ := trodVars_none hV
  have hA1 : DataW.TrodAll enc Tryd.prog W 0 (fun _ => true) true Tryd.f5.params.toList args.toList ds (p ++ []) := by rw [List.append_nil]; exact hA0
  have hA : DataW.TrodAll enc Tryd.prog W 0 (fun _ => true) true Tryd.f5.params.toList args.toList ds p := hA0
  rw [Tryd.params5] at hA hval
  obtain ⟨v0, vs0, d0, ds0, p0, q0, hargs, rfl, rfl, h0, r0⟩ := trodAll_cons hA
  obtain ⟨v1, vs1, d1, ds1, p1, q1, rfl, rfl, rfl, h1, r1⟩ := trodAll_cons r0
  obtain ⟨rfl, rfl, rfl⟩ := trodAll_nil r1
  obtain rfl : args = #[v0, v1] := by cases args; simp_all
  obtain ⟨A0, l0, c0, rfl, hS0, hc0, hl0, hz0⟩ := open_strl Tryd.underlying29 Tryd.underlying9 (by kernel_rfl) (hval 0 29 v0 rfl rfl) h0
  obtain ⟨A1, l1, c1, rfl, hS1, hc1, hl1, hz1⟩ := open_strl Tryd.underlying29 Tryd.underlying9 (by kernel_rfl) (hval 1 29 v1 rfl rfl) h1
  obtain ⟨hp, hE⟩ := laid_tabs hL
  refine (walk l0 l1 A0 A1 c0 c1 W hp hE hS0 hS1 hl0 hl1).mono fun e W' ⟨he, hb⟩ => ?_
  subst he
  exact ⟨_, rfl, law_post laidOut (by kernel_rfl) (by kernel_rfl) Tryd.underlying4 hW' rfl rfl hA1 hb⟩

set_option maxRecDepth 100000 in
theorem reads (w : World) {H : Type} (enc : TypeId × Value → H) : ∃ places, DataW.whole enc Tryd.prog w Tryd.f5.params.toList Rows.codecJoinsSpec.vars false #[Value.slice none 0 0, .slice none 0 0].toList 8 = some ([.nil, .nil], [], places) :=
  ⟨[], by kernel_rfl⟩
theorem args_ok (w : World) : Input.okWideB Tryd.prog w 5 ⟨#[], #[.slice none 0 0, .slice none 0 0], []⟩ = true := by kernel_rfl
set_option maxRecDepth 100000 in
theorem lifted (os : Os) (started : os.Started) (H : Type) (enc : TypeId × Value → H) (F : Stop.Interp) :
    ReturnsInHanded {} Tryd.checked os 5 .any ((OpenSpec.ofChange Rows.codecJoinsSpec).preRow enc Tryd.prog Tryd.f5 Rows.codecJoinsRow.domain false Rows.codecJoinsRow.laid) (((OpenSpec.ofChange Rows.codecJoinsSpec).at F).post enc Tryd.prog Tryd.f5 false true false false) := by
  obtain ⟨places, hx⟩ := reads _ enc
  refine returnsInHanded_of_row (C := Tryd.checked) (s := OpenSpec.ofChange Rows.codecJoinsSpec) own started (by kernel_rfl) Tryd.func5
    (witness_row_at (enc := enc) (C := Tryd.checked) false (World.laidAll Tryd.prog os laidList) #[.slice none 0 0, .slice none 0 0] (World.laidAll_os _ _ _) (w_hv os _) (w_hr os _) (args_ok _)
      (OpenSpec.preRow_of_cond 8 hx (by kernel_rfl) (fun k hk => by cases hk) (by kernel_rfl) (w_laid os _))) ?_
  intro W base args ds gs before hval hW _ _ _ hL _ _
  exact contract H enc W base args ds gs before hval hW hL

theorem said : Rows.CodecJoinsSaid :=
  OpenClaim.holds_of_cond 5 Tryd.f5 rfl rfl rfl rfl rfl rfl rfl ⟨rfl, rfl, rfl, rfl, rfl⟩ rfl rfl rfl rfl rfl (by kernel_rfl) Tryd.func5 (by kernel_rfl)
    (of_decide_eq_true (by kernel_rfl)) (by unfold Func.isWrapper; first | (rw [if_pos (by decide +kernel)]; kernel_rfl) | (rw [if_neg (by decide +kernel)]; exact ⟨rfl, rfl⟩))
    (fun os started H enc _ F => by rw [OpenClaim.pre_eq_preRow]; exact lifted os started H enc F)

theorem plain (f : FuncId) (fn : Func) (hf : Tryd.pinned.checked.prog.funcNamed Rows.codecJoinsRow.func = some f) (hfn : Tryd.pinned.checked.prog.funcs[f]? = some fn) :
    true = Tryd.pinned.checked.prog.looks [] ∧ ∀ (j : Nat) t, fn.params[j]? = some t → Tryd.pinned.checked.prog.wantsStandIn t = false := by
  obtain rfl : f = 5 := Option.some.inj ((show Tryd.prog.funcNamed Rows.codecJoinsRow.func = some 5 by kernel_rfl).symm.trans hf) |>.symm
  obtain rfl : fn = Tryd.f5 := (Option.some.inj (Tryd.func5.symm.trans hfn)).symm
  refine ⟨by kernel_rfl, fun j t ht => ?_⟩
  rw [Tryd.params5] at ht
  have hm : t ∈ [29, 29] := by simpa using Array.mem_of_getElem? ht
  have hall : ([29, 29].all fun u => !Tryd.prog.wantsStandIn u) = true := by kernel_rfl
  exact (show Tryd.prog.wantsStandIn t = false by simpa using List.all_eq_true.1 hall t hm)

theorem card : Rows.CodecJoinsCardSaid :=
  Claim7.holds_tied_plain_at .later [] _ _ _ _ said (fun _ h => by cases h) (by kernel_rfl) (fun _ h => by cases h) codecJoins_row_tie rfl ⟨rfl, rfl⟩ (by kernel_rfl) rfl plain (by kernel_rfl)
end Go.Proofs.YtnkblimmlkidcaaDoor.codecJoins
