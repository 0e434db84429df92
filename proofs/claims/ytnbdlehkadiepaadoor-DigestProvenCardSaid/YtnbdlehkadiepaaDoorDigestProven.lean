/- DigestProven: for every list of strings the law answers true and leaves its argument alone; no condition. -/
import Derived.Test.YtnbdlehkadiepaaDoorCards
import Derived.Test.YtnbdlehkadiepaaDoorTie
import Derived.Test.YtnbdlehkadiepaaDoorDigLaid
import Derived.Test.YtnbdlehkadiepaaDoorDigAwake
import Derived.Test.YtnbdlehkadiepaaDoorLawStrs
import Derived.Test.YtnbdlehkadiepaaDoorDigLaws
namespace Go.Proofs.YtnbdlehkadiepaaDoor.digestProven
open Go.ChangeShapes Go.WideShapes Go.ChangeAt Go.RowKit
open Go.ChangeMaps (open_string)


theorem proven' (l : List ByteArray) (i : Nat) (h : i < l.length) : pathE l (i : Int) = 0 := by
  rw [pathE, pathIn, if_pos (by simpa using h)]
set_option maxHeartbeats 1600000 in
theorem walk (l : List ByteArray) (A : Option Addr) (c : Nat) (w : World) (hd : DigOk w) (hp : PowOk w) (hS : Strs w A l) (hl : l.length ≤ 9223372036854775807) :
    Calls Tryd.prog 9 #[.slice A l.length c] w fun e w' => e = .returned (.bool true) ∧ Below w.heap.size w w' := by
  have HSH := Lib.hid (short_any l A c w hS hl)
  by_cases hsh : shortB l = true
  · have hll : l.length ≤ 1000000 ∧ ∀ s ∈ l, s.size ≤ 1000000 := by
      rw [shortB, decide_eq_true_iff] at hsh
      exact ⟨by omega, fun s hs => by have := hsh.2 s hs; omega⟩
    have HZ := Lib.hid hll.2
    have hl6 := hll.1
    have HT := Lib.hid hsh
    clear hll hsh
    go_enter Tryd.func9, Tryd.ntmps9
    go_wp2_with fail
    refine HSH.out.mono ?_
    rintro e w1 ⟨rfl, hb1⟩
    rw [HT.out]
    have B1 := Lib.hid hb1
    clear hb1
    go_wp2_with fail
    refine (root_any l A c _ (hd.below B1.out) (hS.below B1.out) hl6 HZ.out).mono ?_
    rintro e w2 ⟨rfl, hb2⟩
    have B2 := Lib.hid (bthen B1.out hb2)
    clear hb2
    go_wp2_with fail
    go_loopw [4] (fun i wr => ∃ k : Nat, k ≤ l.length ∧ i = .int .i64 k ∧ Below w.heap.size w wr) (fun i _ => l.length - (intOf i).toNat)
    case atStart => exact ⟨0, Nat.zero_le _, rfl, B2.out⟩
    case round =>
      obtain ⟨k, hk, rfl, hbr⟩ := hrel
      have BR := Lib.hid hbr
      clear hbr
      by_cases hlt : k < l.length
      · obtain ⟨b, o, rfl, hc⟩ := (hS.below BR.out) k hlt
        have HPE := Lib.hid (proven' l k hlt)
        have HPV := Lib.hid (proven l k hlt)
        have HPL := Lib.hid (pathS_length l (k : Int) hl6)
        have HLZ := Lib.hid (HZ.out _ (List.getElem_mem hlt))
        go_wp2_with fail
        refine (path_any l _ c (k : Int) _ (hd.below BR.out) (hS.below BR.out) hl6 HZ.out).mono ?_
        rintro e w3 ⟨⟨A3, c3, rfl, hS3, _, hcap⟩, hb3⟩
        rw [HPE.out]
        have B3 := Lib.hid (bthen BR.out hb3)
        have hc3 := (hb3.cell (World.block_lt_of_cell? _ _ hc)).trans hc
        clear hb3 hc
        go_wp2_with fail
        refine (proves_any (rootS l) l[k] (k : Int) (l.length : Int) (pathS l (k : Int)) A3 c3 _ (hd.below B3.out) hS3 hcap HPL.out (pathS_sizes l (k : Int)) HLZ.out (by omega)).mono ?_
        rintro e w4 ⟨rfl, hb4⟩
        rw [HPV.out]
        have B4 := Lib.hid (bthen B3.out hb4)
        clear hb4
        go_wp2_with fail
        go_roundw
        case rel => exact ⟨k + 1, by omega, by go_num, B4.out⟩
        case measure => simp [intOf]; omega
      · go_wp2_with fail
        refine (awake_any _ (hd.below BR.out) (hp.below BR.out)).mono ?_
        rintro e w7 ⟨rfl, hb7⟩
        have B7 := Lib.hid (bthen BR.out hb7)
        clear hb7
        go_wp2_with fail
        go_ret
        exact ⟨rfl, B7.out⟩
  · have HT : Hid (shortB l = false) := by show _ = _; simpa using hsh
    clear hsh
    go_enter Tryd.func9, Tryd.ntmps9
    go_wp2_with fail
    refine HSH.out.mono ?_
    rintro e w1 ⟨rfl, hb1⟩
    rw [HT.out]
    have B1 := Lib.hid hb1
    clear hb1
    go_wp2_with fail
    refine (awake_any _ (hd.below B1.out) (hp.below B1.out)).mono ?_
    rintro e w7 ⟨rfl, hb7⟩
    have B7 := Lib.hid (bthen B1.out hb7)
    clear hb7
    go_wp2_with fail
    go_ret
    exact ⟨rfl, B7.out⟩

/-- What the walk gives, for every argument and every world that holds the listed variables. -/
theorem contract (H : Type) (enc : TypeId × Value → H) (W : World) (base : Nat) (args : Array Value) (ds gs : List (DataW H)) (before : List MemPlace)
    (hval : ∀ (j : Nat) t v, Tryd.f9.params[j]? = some t → args[j]? = some v → Value.okWide Tryd.prog W .any base t v)
    (hW : DataW.Whole enc Tryd.prog Tryd.f9.params.toList Rows.digestProvenSpec.vars false W args.toList ds gs before) (hL : laidMetH Tryd.prog Rows.digestProvenRow.laid W) :
    Calls Tryd.prog 9 args W fun e W' => ∃ v, e = .returned v ∧ Rows.digestProvenSpec.post enc Tryd.prog Tryd.f9 false true false false W args v W' := by
  have hW' := hW
  obtain ⟨p, q, hA0, hV, rfl, hfz, hnd⟩ := hW
  obtain ⟨rfl, rfl⟩ := trodVars_none hV
  have hA1 : DataW.TrodAll enc Tryd.prog W 0 (fun _ => true) true Tryd.f9.params.toList args.toList ds (p ++ []) := by rw [List.append_nil]; exact hA0
  have hA : DataW.TrodAll enc Tryd.prog W 0 (fun _ => true) true Tryd.f9.params.toList args.toList ds p := hA0
  rw [Tryd.params9] at hA hval
  obtain ⟨v0, vs0, d0, ds0, p0, q0, hargs, rfl, rfl, h0, r0⟩ := trodAll_cons hA
  obtain ⟨rfl, rfl, rfl⟩ := trodAll_nil r0
  obtain rfl : args = #[v0] := by cases args; simp_all
  obtain ⟨A0, l0, c0, rfl, hS0, hc0, hl0, hz0⟩ := open_strl Tryd.underlying35 Tryd.underlying9 (by kernel_rfl) (hval 0 35 v0 rfl rfl) h0
  obtain ⟨hd, hp⟩ := laid_tabs hL
  refine (walk l0 A0 c0 W hd hp hS0 hl0).mono fun e W' ⟨he, hb⟩ => ?_
  subst he
  exact ⟨_, rfl, law_post laidOut (by kernel_rfl) (by kernel_rfl) Tryd.underlying4 hW' rfl rfl hA1 hb⟩

theorem laid_met (os : Os) : laidMet Tryd.prog Rows.digestProvenRow.laid ((World.doorLaid Tryd.prog 29 os).forCall (fun _ _ => 0) ⟨#[], #[.slice none 0 0], []⟩).memory :=
  laidMet_of_run' 8 (by kernel_rfl) (by kernel_rfl)
theorem reads (os : Os) {H : Type} (enc : TypeId × Value → H) : ∃ places, DataW.whole enc Tryd.prog ((World.doorLaid Tryd.prog 29 os).forCall (fun _ _ => 0) ⟨#[], #[.slice none 0 0], []⟩).memory Tryd.f9.params.toList Rows.digestProvenSpec.vars false #[Value.slice none 0 0].toList 8 = some ([.nil], [], places) :=
  ⟨[], by kernel_rfl⟩

set_option maxRecDepth 100000 in
theorem lifted (os : Os) (started : os.Started) (H : Type) (enc : TypeId × Value → H) (F : Stop.Interp) :
    ReturnsInHanded {} Tryd.checked os 9 .any ((OpenSpec.ofChange Rows.digestProvenSpec).preRow enc Tryd.prog Tryd.f9 Rows.digestProvenRow.domain false Rows.digestProvenRow.laid) (((OpenSpec.ofChange Rows.digestProvenSpec).at F).post enc Tryd.prog Tryd.f9 false true false false) := by
  obtain ⟨places, hx⟩ := reads os enc
  refine returnsInHanded_of_row (C := Tryd.checked) (s := OpenSpec.ofChange Rows.digestProvenSpec) own started (by kernel_rfl) Tryd.func9
    (witness_row_at (enc := enc) (C := Tryd.checked) false (World.doorLaid Tryd.prog 29 os) #[.slice none 0 0] rfl (by kernel_rfl) (by kernel_rfl) (by kernel_rfl)
      (OpenSpec.preRow_of_cond 8 hx (by kernel_rfl) (fun k hk => by cases hk) (by kernel_rfl) (laid_met os))) ?_
  intro W base args ds gs before hval hW _ _ _ hL _ _
  exact contract H enc W base args ds gs before hval hW hL

theorem said : Rows.DigestProvenSaid :=
  OpenClaim.holds_of_cond 9 Tryd.f9 rfl rfl rfl rfl rfl rfl rfl ⟨rfl, rfl, rfl, rfl, rfl⟩ rfl rfl rfl rfl rfl (by kernel_rfl) Tryd.func9 (by kernel_rfl)
    (of_decide_eq_true (by kernel_rfl)) (by unfold Func.isWrapper; first | (rw [if_pos (by decide +kernel)]; kernel_rfl) | (rw [if_neg (by decide +kernel)]; exact ⟨rfl, rfl⟩))
    (fun os started H enc _ F => by rw [OpenClaim.pre_eq_preRow]; exact lifted os started H enc F)

theorem plain (f : FuncId) (fn : Func) (hf : Tryd.pinned.checked.prog.funcNamed Rows.digestProvenRow.func = some f) (hfn : Tryd.pinned.checked.prog.funcs[f]? = some fn) :
    false = Tryd.pinned.checked.prog.looks [] ∧ ∀ (j : Nat) t, fn.params[j]? = some t → Tryd.pinned.checked.prog.wantsStandIn t = false := by
  obtain rfl : f = 9 := Option.some.inj ((show Tryd.prog.funcNamed Rows.digestProvenRow.func = some 9 by kernel_rfl).symm.trans hf) |>.symm
  obtain rfl : fn = Tryd.f9 := (Option.some.inj (Tryd.func9.symm.trans hfn)).symm
  refine ⟨by kernel_rfl, fun j t ht => ?_⟩
  rw [Tryd.params9] at ht
  have hm : t ∈ [35] := by simpa using Array.mem_of_getElem? ht
  have hall : ([35].all fun u => !Tryd.prog.wantsStandIn u) = true := by kernel_rfl
  exact (show Tryd.prog.wantsStandIn t = false by simpa using List.all_eq_true.1 hall t hm)

theorem card : Rows.DigestProvenCardSaid :=
  Claim7.holds_tied_plain_at .later [] _ _ _ _ said (fun _ h => by cases h) (by kernel_rfl) (fun _ h => by cases h) digestProven_row_tie rfl ⟨rfl, rfl⟩ (by kernel_rfl) rfl plain (by kernel_rfl)
end Go.Proofs.YtnbdlehkadiepaaDoor.digestProven
