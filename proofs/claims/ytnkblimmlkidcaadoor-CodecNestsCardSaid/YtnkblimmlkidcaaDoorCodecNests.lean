/- CodecNests: for every list of lists of strings the law answers true and leaves its argument alone; no condition. -/
import Derived.Lay
import Derived.Test.YtnkblimmlkidcaaDoorCards
import Derived.Test.YtnkblimmlkidcaaDoorTie
import Derived.Test.YtnkblimmlkidcaaDoorCodLaid
import Derived.Test.YtnkblimmlkidcaaDoorCodLive
import Derived.Test.YtnkblimmlkidcaaDoorCodLen
import Derived.Test.YtnkblimmlkidcaaDoorCodRJoin
import Derived.Test.YtnkblimmlkidcaaDoorCodSame
import Derived.Test.YtnkblimmlkidcaaDoorOpenPairs
namespace Go.Proofs.YtnkblimmlkidcaaDoor.codecNests
open Go.ChangeShapes Go.WideShapes Go.ChangeAt Go.RowKit
open Go.ChangeMaps (open_string)


set_option maxHeartbeats 4000000 in
set_option maxRecDepth 100000 in
theorem walk (l : List (List ByteArray)) (A : Option Addr) (c : Nat) (w : World) (hp : PowOk w) (hE : ErrsOk w) (hS0 : Strss w A l) (hl : l.length ≤ 9223372036854775807) (hz : ∀ m ∈ l, m.length ≤ 9223372036854775807) :
    Calls Tryd.prog 11 #[.slice A l.length c] w fun e w' => e = .returned (.bool true) ∧ Below w.heap.size w w' := by
  obtain ⟨i0, hi, hz0, hz1, hz2⟩ := info_parts Tryd.info_s
  have B0 := Lib.hid (Below.refl w.heap.size w)
  have hS := Lib.hid hS0
  have HLZ := Lib.hid hz
  clear hS0 hz
  by_cases h6 : 6 < l.length
  ·
    go_enter Tryd.func11, Tryd.ntmps11
    go_wp2_with fail
    refine (live_any _ (hp.below B0.out) (hE.below B0.out)).mono ?_
    rintro e w1 ⟨rfl, hb1⟩
    have B1 := Lib.hid (bthen B0.out hb1)
    have G1 := Lib.hid hb1
    clear hb1
    go_wp2_with fail
    go_ret
    exact ⟨rfl, B1.out⟩
  · have hl6 : l.length ≤ 1000000 := by omega
    go_enter Tryd.func11, Tryd.ntmps11
    go_wp2_with fail
    go_loopw [3, 4, 16] (fun v _ i wr => ∃ k : Nat, k ≤ l.length ∧ i = .int .i64 k ∧ wr.ownsRow w.heap.size 9 1 v k (strVs ((l.take k).map joinS)) ∧ Hid (∀ m ∈ l.take k, m.length ≤ 6 ∧ ∀ s ∈ m, s.size ≤ 40) ∧ Below w.heap.size w wr) (fun _ _ i _ => l.length - (intOf i).toNat)
    case atStart => exact ⟨0, Nat.zero_le _, rfl, World.ownsRow_nil _ _ _ _, Lib.hid (fun p hp => by simp at hp), Below.refl _ _⟩
    case round =>
      obtain ⟨k, hk, rfl, hown, HZ0, hbr⟩ := hrel
      by_cases hlt : k < l.length
      · obtain ⟨b, o, A', c', rfl, hc1, hs1⟩ := (hS.out.below hbr) k hlt
        have HT : Hid (l.take (k + 1) = l.take k ++ [l[k]]) := by show _ = _; rw [List.take_succ_eq_append_getElem hlt]
        have HML := Lib.hid (HLZ.out _ (List.getElem_mem hlt))
        generalize l[k] = m at *
        have HS1 := Lib.hid hs1
        have hml : m.length ≤ 9223372036854775807 := HML.out
        clear hs1
        cases hg : greatB m 6 40 with
        | true =>
          have hga := great_any m 6 40 A' c' wr HS1.out HML.out
          rw [hg] at hga
          clear hg
          go_wp2_with fail
          refine hga.mono ?_
          rintro e w1 ⟨rfl, rfl⟩
          go_wp2_with fail
          refine (live_any _ (hp.below hbr) (hE.below hbr)).mono ?_
          rintro e w1 ⟨rfl, hb1⟩
          go_wp2_with fail
          go_ret
          exact ⟨rfl, bthen hbr hb1⟩
        | false =>
          have hga := great_any m 6 40 A' c' wr HS1.out HML.out
          rw [hg] at hga
          obtain ⟨n1, z1⟩ := great_small hg
          have HZ1 : Hid (∀ p ∈ l.take (k + 1), p.length ≤ 6 ∧ ∀ s ∈ p, s.size ≤ 40) := by
            show ∀ p ∈ _, _
            intro p hp
            rw [HT.out, List.mem_append, List.mem_singleton] at hp
            rcases hp with hp | rfl
            · exact HZ0.out p hp
            · exact ⟨n1, z1⟩
          have HMZ : Hid (∀ s ∈ m, s.size ≤ 300000) := Lib.hid (fun s hs => by have := z1 s hs; omega)
          clear hg z1
          go_wp2_with fail
          refine hga.mono ?_
          rintro e w1 ⟨rfl, rfl⟩
          go_wp2_with fail
          refine (cjoin_any m A' c' _ HS1.out (by omega) HMZ.out).mono ?_
          rintro e w1 ⟨rfl, hb1⟩
          have hown1 := own_below hown hb1
          have hbr1 := bthen hbr hb1
          go_wp2_with (at_builtin; refine wpList_append_own _ rfl _ _ 29 rfl w.heap.size 9 i0 (.string ByteArray.empty) 1 16 Tryd.underlying29 hi hz0 hz1 hz2 rfl (by decide) _ _ _ rfl (hown1.alloc _) ⟨w1.heap.size, 0, none⟩ 1 1 [strV (joinS m)] rfl rfl (cell_one_new _ _ _) (by intro u hu; simp at hu; subst hu; rfl) (by unfold maxLen; omega) (by omega) (by have := hbr1.size; simp; omega) ?_; intro v' w2 hown2 hg2 _)
          have HBw : Hid (Below w.heap.size w w2) := Lib.hid ((hbr1.alloc hbr1.size _).grown hg2 (by have := hbr1.size; simp; omega) (fun q hq => (hown1.lt q hq).1))
          have HOw : Hid (w2.ownsRow w.heap.size 9 1 v' (k + 1) (strVs ((l.take (k + 1)).map joinS))) := by
            show World.ownsRow _ _ _ _ _ _ _
            rw [HT.out, List.map_append, List.map_singleton, ← strVs_snoc]; exact hown2
          clear hown2 hg2
          go_wp2_with fail
          go_roundw
          case rel => exact ⟨k + 1, hlt, by go_num, HOw.out, HZ1, HBw.out⟩
          case measure => simp [intOf]; omega
      · have hK : k = l.length := by omega
        have hz1 : ∀ m ∈ l, m.length ≤ 6 ∧ ∀ s ∈ m, s.size ≤ 40 := by
          have h := HZ0.out
          rwa [List.take_of_length_le (by omega)] at h
        have HB := Lib.hid hbr
        obtain ⟨A2, cc, rfl, hS2, hcc⟩ := own_strs (l := l.map joinS) hown (by simp [hK]) (fun j hj => by
          rw [hK, List.take_of_length_le (Nat.le_refl _)]
          exact strVs_at _ j hj)
        have hjz : ∀ s ∈ l.map joinS, s.size ≤ 1000 := fun s hs => by
          rw [List.mem_map] at hs
          obtain ⟨m, hm, rfl⟩ := hs
          have h1 := joinS_le m 40 (hz1 m hm).2
          have h2 := (hz1 m hm).1
          omega
        have hj := cjoin_any (l.map joinS) A2 cc wr hS2 (by simpa using hl6) (fun s hs => by have := hjz s hs; omega)
        have HJZ : Hid ((joinS (l.map joinS)).size ≤ 1000000) := Lib.hid (by have h1 := joinS_le (l.map joinS) 1000 hjz; rw [List.length_map] at h1; omega)
        have HZ : Hid (∀ m ∈ l, (joinS m).size ≤ 1000000 ∧ m.length ≤ 1000000 ∧ splitS (joinS m) = m ∧ splitErr (joinS m) = 0) := Lib.hid (fun m hm => by
          have h1 := hjz (joinS m) (List.mem_map_of_mem hm)
          have h2 := (hz1 m hm).1
          have h3 := split_some (split_joinS m)
          exact ⟨by omega, by omega, h3.1, h3.2⟩)
        have HK := Lib.hid (split_some (split_joinS (l.map joinS)))
        clear hz1 hjz hS2
        rw [List.length_map] at hj
        rw [List.length_map]
        go_wp2_with fail
        refine hj.mono ?_
        rintro e w3 ⟨rfl, hb3⟩
        have HB3 := Lib.hid (bthen HB.out hb3)
        clear hb3 hbr hown
        go_wp2_with fail
        refine (csplit_any (joinS (l.map joinS)) _ HJZ.out).mono ?_
        rintro e w4 ⟨hr4, hb4⟩
        rw [HK.out.1, HK.out.2] at hr4
        obtain ⟨A3, c3, rfl, hq, _, _⟩ := hr4
        have HS3 := Lib.hid hq
        have HB4 := Lib.hid (bthen HB3.out hb4)
        clear hq hb4
        rw [List.length_map]
        go_wp2_with fail
        go_loopw [7, 8, 9, 51] (fun _ _ _ i wr => ∃ k : Nat, k ≤ l.length ∧ i = .int .i64 k ∧ Below w4.heap.size w4 wr) (fun _ _ _ i _ => l.length - (intOf i).toNat)
        case atStart => exact ⟨0, Nat.zero_le _, rfl, Below.refl _ _⟩
        case round =>
          obtain ⟨k, hk, rfl, hbr⟩ := hrel
          have HBr := Lib.hid (bthen HB4.out hbr)
          by_cases hlt : k < l.length
          · obtain ⟨b, o, rfl, hc1⟩ := (HS3.out.below hbr) k (by simpa using hlt)
            rw [List.getElem_map] at hc1
            obtain ⟨b2, o2, A', c', rfl, hc2, hs2⟩ := (hS.out.below HBr.out) k hlt
            obtain ⟨q1, q2, q3, q4⟩ := HZ.out _ (List.getElem_mem hlt)
            have HS2 := Lib.hid hs2
            have hsp := fun wq => csplit_any (joinS l[k]) wq q1
            rw [q3, q4] at hsp
            generalize l[k] = m at *
            generalize joinS m = x at *
            clear q3 q4 hs2
            go_wp2_with fail
            refine (Calls.mono (hsp _) ?_)
            rintro e w5 ⟨hr5, hb5⟩
            obtain ⟨A5, c5, rfl, hq5, _, _⟩ := hr5
            have HS5 := Lib.hid hq5
            have hc25 := (hb5.cell (World.block_lt_of_cell? _ _ hc2)).trans hc2
            have HS25 := Lib.hid (HS2.out.below hb5)
            have HB5 := Lib.hid (bthen hbr hb5)
            clear hq5 hb5
            go_wp2_with fail
            refine (same2_any m m A5 A' c5 c' _ HS5.out HS25.out q2 q2).mono ?_
            rintro e w6 ⟨rfl, hb6⟩
            have HB6 := Lib.hid (bthen HB5.out hb6)
            clear hb6
            go_wp2_with fail
            go_roundw
            case rel => exact ⟨k + 1, hlt, by go_num, HB6.out⟩
            case measure => simp [intOf]; omega
          · go_wp2_with fail
            refine (live_any _ (hp.below HBr.out) (hE.below HBr.out)).mono ?_
            rintro e w5 ⟨rfl, hb5⟩
            go_wp2_with fail
            go_ret
            exact ⟨rfl, bthen HBr.out hb5⟩

set_option maxRecDepth 100000 in
/-- What the walk gives, for every argument and every world that holds the listed variables. -/
theorem contract (H : Type) (enc : TypeId × Value → H) (W : World) (base : Nat) (args : Array Value) (ds gs : List (DataW H)) (before : List MemPlace)
    (hval : ∀ (j : Nat) t v, Tryd.f11.params[j]? = some t → args[j]? = some v → Value.okWide Tryd.prog W .any base t v)
    (hW : DataW.Whole enc Tryd.prog Tryd.f11.params.toList Rows.codecNestsSpec.vars false W args.toList ds gs before) (hL : laidMetH Tryd.prog Rows.codecNestsRow.laid W) :
    Calls Tryd.prog 11 args W fun e W' => ∃ v, e = .returned v ∧ Rows.codecNestsSpec.post enc Tryd.prog Tryd.f11 false true false false W args v W' := by
  have hW' := hW
  obtain ⟨p, q, hA0, hV, rfl, hfz, hnd⟩ := hW
  obtain ⟨rfl, rfl⟩ := trodVars_none hV
  have hA1 : DataW.TrodAll enc Tryd.prog W 0 (fun _ => true) true Tryd.f11.params.toList args.toList ds (p ++ []) := by rw [List.append_nil]; exact hA0
  have hA : DataW.TrodAll enc Tryd.prog W 0 (fun _ => true) true Tryd.f11.params.toList args.toList ds p := hA0
  rw [Tryd.params11] at hA hval
  obtain ⟨v0, vs0, d0, ds0, p0, q0, hargs, rfl, rfl, h0, r0⟩ := trodAll_cons hA
  obtain ⟨rfl, rfl, rfl⟩ := trodAll_nil r0
  obtain rfl : args = #[v0] := by cases args; simp_all
  obtain ⟨A0, l0, c0, rfl, hS0, hl0, hz0⟩ := open_strss Tryd.underlying47 Tryd.underlying29 (by kernel_rfl) Tryd.underlying9 (by kernel_rfl) (hval 0 47 v0 rfl rfl) h0
  obtain ⟨hp, hE⟩ := laid_tabs hL
  refine (walk l0 A0 c0 W hp hE hS0 hl0 hz0).mono fun e W' ⟨he, hb⟩ => ?_
  subst he
  exact ⟨_, rfl, law_post laidOut (by kernel_rfl) (by kernel_rfl) Tryd.underlying4 hW' rfl rfl hA1 hb⟩

set_option maxRecDepth 100000 in
theorem reads (w : World) {H : Type} (enc : TypeId × Value → H) : ∃ places, DataW.whole enc Tryd.prog w Tryd.f11.params.toList Rows.codecNestsSpec.vars false #[Value.slice none 0 0].toList 8 = some ([.nil], [], places) :=
  ⟨[], by kernel_rfl⟩
theorem args_ok (w : World) : Input.okWideB Tryd.prog w 11 ⟨#[], #[.slice none 0 0], []⟩ = true := by kernel_rfl
set_option maxRecDepth 100000 in
theorem lifted (os : Os) (started : os.Started) (H : Type) (enc : TypeId × Value → H) (F : Stop.Interp) :
    ReturnsInHanded {} Tryd.checked os 11 .any ((OpenSpec.ofChange Rows.codecNestsSpec).preRow enc Tryd.prog Tryd.f11 Rows.codecNestsRow.domain false Rows.codecNestsRow.laid) (((OpenSpec.ofChange Rows.codecNestsSpec).at F).post enc Tryd.prog Tryd.f11 false true false false) := by
  obtain ⟨places, hx⟩ := reads _ enc
  refine returnsInHanded_of_row (C := Tryd.checked) (s := OpenSpec.ofChange Rows.codecNestsSpec) own started (by kernel_rfl) Tryd.func11
    (witness_row_at (enc := enc) (C := Tryd.checked) false (World.laidAll Tryd.prog os laidList) #[.slice none 0 0] (World.laidAll_os _ _ _) (w_hv os _) (w_hr os _) (args_ok _)
      (OpenSpec.preRow_of_cond 8 hx (by kernel_rfl) (fun k hk => by cases hk) (by kernel_rfl) (w_laid os _))) ?_
  intro W base args ds gs before hval hW _ _ _ hL _ _
  exact contract H enc W base args ds gs before hval hW hL

theorem said : Rows.CodecNestsSaid :=
  OpenClaim.holds_of_cond 11 Tryd.f11 rfl rfl rfl rfl rfl rfl rfl ⟨rfl, rfl, rfl, rfl, rfl⟩ rfl rfl rfl rfl rfl (by kernel_rfl) Tryd.func11 (by kernel_rfl)
    (of_decide_eq_true (by kernel_rfl)) (by unfold Func.isWrapper; first | (rw [if_pos (by decide +kernel)]; kernel_rfl) | (rw [if_neg (by decide +kernel)]; exact ⟨rfl, rfl⟩))
    (fun os started H enc _ F => by rw [OpenClaim.pre_eq_preRow]; exact lifted os started H enc F)

theorem plain (f : FuncId) (fn : Func) (hf : Tryd.pinned.checked.prog.funcNamed Rows.codecNestsRow.func = some f) (hfn : Tryd.pinned.checked.prog.funcs[f]? = some fn) :
    true = Tryd.pinned.checked.prog.looks [] ∧ ∀ (j : Nat) t, fn.params[j]? = some t → Tryd.pinned.checked.prog.wantsStandIn t = false := by
  obtain rfl : f = 11 := Option.some.inj ((show Tryd.prog.funcNamed Rows.codecNestsRow.func = some 11 by kernel_rfl).symm.trans hf) |>.symm
  obtain rfl : fn = Tryd.f11 := (Option.some.inj (Tryd.func11.symm.trans hfn)).symm
  refine ⟨by kernel_rfl, fun j t ht => ?_⟩
  rw [Tryd.params11] at ht
  have hm : t ∈ [47] := by simpa using Array.mem_of_getElem? ht
  have hall : ([47].all fun u => !Tryd.prog.wantsStandIn u) = true := by kernel_rfl
  exact (show Tryd.prog.wantsStandIn t = false by simpa using List.all_eq_true.1 hall t hm)

theorem card : Rows.CodecNestsCardSaid :=
  Claim7.holds_tied_plain_at .later [] _ _ _ _ said (fun _ h => by cases h) (by kernel_rfl) (fun _ h => by cases h) codecNests_row_tie rfl ⟨rfl, rfl⟩ (by kernel_rfl) rfl plain (by kernel_rfl)
end Go.Proofs.YtnkblimmlkidcaaDoor.codecNests
