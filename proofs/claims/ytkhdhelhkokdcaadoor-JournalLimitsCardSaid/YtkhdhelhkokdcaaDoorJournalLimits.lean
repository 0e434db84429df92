/- JournalLimits: for every byte and every number the law answers true and leaves its arguments alone; no condition. -/
import Derived.Lay
import Derived.Test.YtkhdhelhkokdcaaDoorCards
import Derived.Test.YtkhdhelhkokdcaaDoorTie
import Derived.Test.YtkhdhelhkokdcaaDoorJrnLaid
import Derived.Test.YtkhdhelhkokdcaaDoorJrnAwake
import Derived.Test.YtkhdhelhkokdcaaDoorJrnBackP
namespace Go.Proofs.YtkhdhelhkokdcaaDoor.journalLimits
open Go.ChangeShapes Go.WideShapes Go.ChangeAt Go.RowKit
open Go.ChangeMaps (open_string)


theorem info_b : (Tryd.prog.info? 5).map (fun i => (i.zero, i.size, i.bytes)) = some (some (.int .u8 0), 1, 1) := by kernel_rfl
/-- A block holds K times the byte c. -/
def CB (w : World) (b K : Nat) (c : UInt8) : Prop := ∀ j, j < K → w.cell? ⟨b, j, none⟩ = some (.int .u8 (c.toNat : Int))
theorem CB.below {w w' : World} {b K : Nat} {c : UInt8} (h : CB w b K c) (hb : Below w.heap.size w w') : CB w' b K c :=
  fun j hj => (hb.cell (World.block_lt_of_cell? w _ (h j hj))).trans (h j hj)
theorem CB.only {w w' : World} {b K g : Nat} {v : Value} {c : UInt8} (h : CB w b K c) (ho : Only w w' g v.ownBlock) (ha : Apart (some ⟨b, 0, none⟩) w g v) : CB w' b K c := by
  intro j hj
  rw [← h j hj]
  obtain ⟨h1, h2, h3⟩ := ha _ rfl
  exact World.cell?_of_block (ho.block b h3 h1 h2)
def rep (K : Nat) (c : UInt8) : ByteArray := ⟨(List.replicate K c).toArray⟩
theorem rep_size (K : Nat) (c : UInt8) : (rep K c).size = K := by show (List.replicate K c).toArray.size = K; simp
theorem conv_rep {w : World} {b K : Nat} {c : UInt8} (h : CB w b K c) : (convert 46 9 (.slice (some ⟨b, 0, none⟩) K K)).run Tryd.prog w = .ok (.string (rep K c)) w := by
  have := run_convert_bytes_back w 46 9 5 ⟨b, 0, none⟩ K (List.replicate K c) Tryd.underlying46 Tryd.underlying5 Tryd.underlying9 (fun j hj => by
    rw [addr_add]
    simpa using h j (by simpa using hj))
  simpa [rep] using this
theorem aj_set {w0 w : World} {g d b : Nat} {v : Value} {l : List ByteArray} (h : AJ w0 w g v l d) (o : Nat) (u : Value) (hb : w0.heap.size ≤ b) (hg : g ≠ b) (hv : v.ownBlock ≠ some b) : AJ w0 (w.setCell ⟨b, o, none⟩ u) g v l d :=
  ⟨⟨h.1.1.only ((Only.refl w b none).setCell o u) hg (fun e => by cases e) hv (fun i hi e => by cases e), h.1.2⟩, h.2.setCell (p := ⟨b, o, none⟩) hb u⟩
set_option maxHeartbeats 8000000 in
set_option maxRecDepth 100000 in
theorem walk (z : Int) (n : Int) (w : World) (hd : DigOk w) (hp : PowOk w) (hE : ErrsOk w) (z0 : 0 ≤ z) (z1 : z ≤ 255) :
    Calls Tryd.prog 5 #[.int .u8 z, .int .i64 n] w fun e w' => e = .returned (.bool true) ∧ Below w.heap.size w w' := by
  have B0 := Lib.hid (Below.refl w.heap.size w)
  obtain ⟨c, rfl⟩ : ∃ c : UInt8, z = (c.toNat : Int) := ⟨UInt8.ofNat z.toNat, by simp; omega⟩
  clear z0 z1
  obtain ⟨i0, hi, hz0, hz1, hz2⟩ := info_parts info_b
  obtain ⟨K, hK⟩ : ∃ K : Nat, max 0 (min n 5000) = (K : Int) := ⟨(max 0 (min n 5000)).toNat, by omega⟩
  have hK5 : K ≤ 5000 := by omega
  go_enter Tryd.func5, Tryd.ntmps5
  go_wp2_with fail
  refine (aj_new w _ B0.out).mono ?_
  rintro e w1 ⟨⟨g, v1, rfl, hj1, _, _⟩, hb1⟩
  have J1 := Lib.hid hj1
  clear hj1 hb1
  have hgb := blk_lt J1.out.1.1.2.1
  have HVB : Hid (v1.ownBlock ≠ some w1.heap.size) := Lib.hid (fun e => by have := (J1.out.1.1.2.2.1.block _ e).2; omega)
  have HGB : Hid (g ≠ w1.heap.size) := Lib.hid (by omega)
  have HW1 : Hid (w.heap.size ≤ w1.heap.size) := Lib.hid J1.out.2.size
  go_wp2_with (at_make; refine wpList_make_full _ rfl _ _ 46 rfl w1.heap.size 5 i0 (.int .u8 0) 1 Tryd.underlying46 hi hz0 hz1 .i64 .i64 _ _ K rfl rfl rfl rfl (by rw [hz2]; omega) (by unfold maxLen; omega) (Nat.le_refl _) ?_; intro w2 hown2 hg2)
  have J2 := Lib.hid (J1.out.below ((Below.refl w1.heap.size w1).grown hg2 (Nat.le_refl _) (by intro k hk; cases hk)))
  generalize (madeCells (Value.int IntKind.u8 0).cells (K * 1)).toList = xs0 at hown2
  obtain ⟨b, HBE⟩ : ∃ b, Hid (w1.heap.size = b) := ⟨_, Lib.hid rfl⟩
  rw [HBE.out] at hown2 HVB HGB HW1 hgb
  rw [HBE.out]
  have HO2 := Lib.hid hown2
  clear hown2 hg2 hi hz0 hz1 hz2
  go_loopw [7] (fun i wr => ∃ (k : Nat) (xs : List Value), k ≤ K ∧ i = .int .i64 k ∧ Hid (wr.ownsRow b 5 1 (.slice (some ⟨b, 0, none⟩) K K) K xs) ∧ Hid (∀ j, j < k → xs[j]? = some (.int .u8 (c.toNat : Int))) ∧ Hid (AJ w wr g v1 [] 0)) (fun i _ => K - (intOf i).toNat)
  case atStart => exact ⟨0, xs0, Nat.zero_le _, rfl, HO2, Lib.hid (fun j hj => absurd hj (by omega)), J2⟩
  case round =>
    obtain ⟨k, xs, hk, rfl, HO, HD, HJ⟩ := hrel
    clear HO2 J2
    by_cases hlt : k < K
    · have HX : Hid (xs.length = K) := Lib.hid (by have := HO.out.1; omega)
      obtain ⟨u, hu⟩ : ∃ u, xs[k]? = some u := ⟨_, List.getElem?_eq_getElem (by rw [HX.out]; exact hlt)⟩
      have hcell := (HO.out.cellAt k (by omega)).trans hu
      have hfr := HO.out.frozenAt k
      have HJ2 := Lib.hid (aj_set HJ.out k (.int .u8 (c.toNat : Int)) HW1.out HGB.out HVB.out)
      have HS := Lib.hid (HO.out.stored k (.int .u8 (c.toNat : Int))).1
      have HD2 : Hid (∀ j, j < k + 1 → (xs.set k (.int .u8 (c.toNat : Int)))[j]? = some (.int .u8 (c.toNat : Int))) := Lib.hid (by
        intro j hj
        by_cases e : j = k
        · subst e; rw [List.getElem?_set_self (by rw [HX.out]; exact hlt)]
        · rw [List.getElem?_set_ne (Ne.symm e)]; exact HD.out j (by omega))
      clear hu
      go_wp2_with fail
      go_roundw
      case rel => exact ⟨k + 1, _, hlt, by go_num, HS, HD2, HJ2⟩
      case measure => simp [intOf]; omega
    · have hkk : k = K := by omega
      subst hkk
      have HC : Hid (CB _ b k c) := Lib.hid (fun j hj => (HO.out.cellAt j (by omega)).trans (HD.out j hj))
      have HA := Lib.hid (show Apart (some ⟨b, 0, none⟩) _ g v1 from fun p hp => by cases hp; exact ⟨fun e => HGB.out e.symm, HVB.out, (HO.out.lt b rfl).2⟩)
      clear HO HD
      have kc := conv_rep HC.out
      have hrz := rep_size k c
      obtain ⟨X, HX⟩ : ∃ X, Hid (rep k c = X) := ⟨_, Lib.hid rfl⟩
      rw [HX.out] at kc hrz
      have HRZ := Lib.hid hrz
      clear hrz
      by_cases hbig : 4096 < k
      · have t1 : decide ((4096 : Int) < (k : Int)) = true := decide_eq_true (by omega)
        go_wp2_with fail
        refine (jappend_big X _ _ g _ _ _ HJ.out.1 (by rw [HRZ.out]; exact hbig)).mono ?_
        rintro e w3 ⟨rfl, rfl⟩
        clear kc
        go_wp2_with fail
        refine (aj_records w _ _ _ _ _ HJ.out (by simp)).mono ?_
        rintro e w4 ⟨⟨A4, c4, rfl, _, _⟩, hb4⟩
        have J4 := Lib.hid (HJ.out.below hb4)
        clear hb4
        go_wp2_with fail
        refine (awake_any _ (hd.below J4.out.2) (hp.below J4.out.2) (hE.below J4.out.2)).mono ?_
        rintro e w5 ⟨rfl, hb5⟩
        have J5 := Lib.hid (J4.out.below hb5)
        clear hb5
        go_wp2_with fail
        go_ret
        exact ⟨rfl, J5.out.2⟩
      · have t1 : decide ((4096 : Int) < (k : Int)) = false := decide_eq_false (by omega)
        go_wp2_with fail
        refine (aj_append X w _ _ _ _ _ HJ.out (by simp) (by rw [HRZ.out]; omega)).mono ?_
        rintro e w3 ⟨rfl, v3, hj3, ho3, hf3⟩
        have J3 : Hid (AJ w w3 g v3 [X] 0) := Lib.hid hj3
        have C3 := Lib.hid (HC.out.only ho3 HA.out)
        have A3 := Lib.hid (HA.out.step ho3.size hf3)
        clear hj3 ho3 hf3 kc
        go_wp2_with fail
        refine (aj_sync w _ _ _ _ _ J3.out).mono ?_
        rintro e w4 ⟨rfl, v4, hj4, ho4, hf4⟩
        have J4 : Hid (AJ w w4 g v4 [X] 1) := Lib.hid hj4
        have C4 := Lib.hid (C3.out.only ho4 A3.out)
        clear hj4 ho4 hf4
        go_wp2_with fail
        refine (aj_bytes w _ (hd.below J4.out.2) (hp.below J4.out.2) _ _ _ _ J4.out (by simp)).mono ?_
        rintro e w5 ⟨rfl, hb5⟩
        have J5 := Lib.hid (J4.out.below hb5)
        have C5 := Lib.hid (C4.out.below hb5)
        clear hb5
        have HT : Hid (List.take 1 [X] = [X]) := Lib.hid rfl
        have HSM : Hid (∀ r ∈ [X], r.size ≤ 4096) := Lib.hid (fun r hr => by rw [List.mem_singleton] at hr; subst hr; rw [HRZ.out]; omega)
        have HEL : Hid ((encB [X]).size ≤ 4200) := Lib.hid (by rw [encB_size]; have := encL_le [X] HSM.out; simpa using this)
        obtain ⟨Y, HY⟩ : ∃ Y, Hid (encB [X] = Y) := ⟨_, Lib.hid rfl⟩
        rw [HY.out] at HEL
        rw [HT.out, HY.out]
        go_wp2_with fail
        refine (decode_any Y _ (hd.below J5.out.2) (hp.below J5.out.2) (hE.below J5.out.2) (by have := HEL.out; omega)).mono ?_
        rintro e w6 ⟨⟨v6, l6, n6, rfl, hown6, hD6, hnil6⟩, hb6⟩
        clear hnil6
        obtain ⟨rfl, hn6⟩ := back_whole HSM.out (by rw [HY.out]; exact hD6)
        rw [HY.out] at hn6
        subst hn6
        obtain ⟨q, cq, rfl, hq1, hq2⟩ := hown6.form (by simp)
        have hcl : w6.cell? ⟨q, 0, none⟩ = some (.string X) := by
          obtain ⟨b', o', e', hc'⟩ := (Strs.own hown6 rfl (strVs_at _)) 0 (by simp)
          injection e' with e'; injection e' with e1 e2
          subst e1; subst e2
          exact hc'
        have J6 := Lib.hid (J5.out.below hb6)
        have C6 := Lib.hid (C5.out.below hb6)
        clear hb6 hown6 hD6 hq1 hq2
        have kc6 : (convert 46 9 (.slice (some ⟨b, 0, none⟩) k k)).run Tryd.prog w6.drew = .ok (.string X) w6.drew := by rw [← HX.out]; exact conv_rep (w := w6.drew) C6.out
        go_wp2_with fail
        have hql := World.block_lt_of_cell? _ _ hcl
        go_region_held3 (fun w' => w'.cell? ⟨q, 0, none⟩ = some (.string X) ∧ (convert 46 9 (.slice (some ⟨b, 0, none⟩) k k)).run Tryd.prog w' = .ok (.string X) w')
          (first | go_keep | (exact ⟨hcl, kc6⟩) | (exact ⟨(hb7.cell (p := ⟨q, 0, none⟩) hql).trans hcl, by rw [← HX.out]; exact conv_rep (C6.out.below ((Below.refl _ _).drew.trans hb7))⟩) | (exact ⟨(hb8.cell (p := ⟨q, 0, none⟩) (Nat.lt_of_lt_of_le hql hb7.size)).trans ((hb7.cell (p := ⟨q, 0, none⟩) hql).trans hcl), by rw [← HX.out]; exact conv_rep ((C6.out.below ((Below.refl _ _).drew.trans hb7)).below hb8)⟩))
          (first
            | (go_at_call 22; refine (aj_bytes w _ ?_ ?_ g 1 v4 [X] ?_ ?_).mono ?_; exact (hd.below J6.out.2).drew; exact (hp.below J6.out.2).drew; exact J6.out.below (Below.refl _ _).drew; simp; rintro e w7 ⟨rfl, hb7⟩; rw [HT.out, HY.out])
            | (go_at_call 9; refine (awake_any _ ?_ ?_ ?_).mono ?_; exact (hd.below ((J6.out.below (Below.refl _ _).drew).below hb7).2); exact (hp.below ((J6.out.below (Below.refl _ _).drew).below hb7).2); exact (hE.below ((J6.out.below (Below.refl _ _).drew).below hb7).2); rintro e w8 ⟨rfl, hb8⟩)
            | fail)
        all_goals
          have J8 := Lib.hid (((J6.out.below (Below.refl _ _).drew).below hb7).below hb8)
          clear hb7 hb8
          go_wp2_with fail
          go_ret
          exact ⟨rfl, J8.out.2⟩

set_option maxRecDepth 100000 in
/-- What the walk gives, for every argument and every world that holds the listed variables. -/
theorem contract (H : Type) (enc : TypeId × Value → H) (W : World) (base : Nat) (args : Array Value) (ds gs : List (DataW H)) (before : List MemPlace)
    (hval : ∀ (j : Nat) t v, Tryd.f5.params[j]? = some t → args[j]? = some v → Value.okWide Tryd.prog W .any base t v)
    (hW : DataW.Whole enc Tryd.prog Tryd.f5.params.toList Rows.journalLimitsSpec.vars false W args.toList ds gs before) (hL : laidMetH Tryd.prog Rows.journalLimitsRow.laid W) :
    Calls Tryd.prog 5 args W fun e W' => ∃ v, e = .returned v ∧ Rows.journalLimitsSpec.post enc Tryd.prog Tryd.f5 false true false false W args v W' := by
  have hW' := hW
  obtain ⟨p, q, hA0, hV, rfl, hfz, hnd⟩ := hW
  obtain ⟨rfl, rfl⟩ := trodVars_none hV
  have hA1 : DataW.TrodAll enc Tryd.prog W 0 (fun _ => true) true Tryd.f5.params.toList args.toList ds (p ++ []) := by rw [List.append_nil]; exact hA0
  have hA : DataW.TrodAll enc Tryd.prog W 0 (fun _ => true) true Tryd.f5.params.toList args.toList ds p := hA0
  rw [Tryd.params5] at hA hval
  obtain ⟨v0, vs0, d0, ds0, p0, q0, hargs, rfl, rfl, h0, r0⟩ := trodAll_cons hA
  obtain ⟨v1, vs1, d1, ds1, p1, q1, rfl, rfl, rfl, h1, r1⟩ := trodAll_cons r0
  obtain ⟨rfl, rfl, rfl⟩ := trodAll_nil r1
  obtain rfl : args = #[v0, v1] := by cases args; simp_all
  obtain ⟨n0, rfl, rfl, rfl, wn0⟩ := open_int Tryd.underlying5 (hval 0 5 v0 rfl rfl) h0
  obtain ⟨lo0, hi0⟩ := bounds_u8 wn0
  obtain ⟨n1, rfl, rfl, rfl, wn1⟩ := open_int Tryd.underlying3 (hval 1 3 v1 rfl rfl) h1
  obtain ⟨_, _⟩ := bounds_i64 wn1
  obtain ⟨hd, hp, hE⟩ := laid_tabs hL
  refine (walk n0 n1 W hd hp hE lo0 hi0).mono fun e W' ⟨he, hb⟩ => ?_
  subst he
  exact ⟨_, rfl, law_post laidOut (by kernel_rfl) (by kernel_rfl) Tryd.underlying4 hW' rfl rfl hA1 hb⟩

set_option maxRecDepth 100000 in
theorem reads (w : World) {H : Type} (enc : TypeId × Value → H) : ∃ places, DataW.whole enc Tryd.prog w Tryd.f5.params.toList Rows.journalLimitsSpec.vars false #[Value.int .u8 0, .int .i64 0].toList 8 = some ([.lit (.int .u8 0), .lit (.int .i64 0)], [], places) :=
  ⟨[], by kernel_rfl⟩
theorem args_ok (w : World) : Input.okWideB Tryd.prog w 5 ⟨#[], #[.int .u8 0, .int .i64 0], []⟩ = true := by kernel_rfl
set_option maxRecDepth 100000 in
theorem lifted (os : Os) (started : os.Started) (H : Type) (enc : TypeId × Value → H) (F : Stop.Interp) :
    ReturnsInHanded {} Tryd.checked os 5 .any ((OpenSpec.ofChange Rows.journalLimitsSpec).preRow enc Tryd.prog Tryd.f5 Rows.journalLimitsRow.domain false Rows.journalLimitsRow.laid) (((OpenSpec.ofChange Rows.journalLimitsSpec).at F).post enc Tryd.prog Tryd.f5 false true false false) := by
  obtain ⟨places, hx⟩ := reads _ enc
  refine returnsInHanded_of_row (C := Tryd.checked) (s := OpenSpec.ofChange Rows.journalLimitsSpec) own started (by kernel_rfl) Tryd.func5
    (witness_row_at (enc := enc) (C := Tryd.checked) false (World.laidAll Tryd.prog os laidList) #[.int .u8 0, .int .i64 0] (World.laidAll_os _ _ _) (w_hv os _) (w_hr os _) (args_ok _)
      (OpenSpec.preRow_of_cond 8 hx (by kernel_rfl) (fun k hk => by cases hk) (by kernel_rfl) (w_laid os _))) ?_
  intro W base args ds gs before hval hW _ _ _ hL _ _
  exact contract H enc W base args ds gs before hval hW hL

theorem said : Rows.JournalLimitsSaid :=
  OpenClaim.holds_of_cond 5 Tryd.f5 rfl rfl rfl rfl rfl rfl rfl ⟨rfl, rfl, rfl, rfl, rfl⟩ rfl rfl rfl rfl rfl (by kernel_rfl) Tryd.func5 (by kernel_rfl)
    (of_decide_eq_true (by kernel_rfl)) (by unfold Func.isWrapper; first | (rw [if_pos (by decide +kernel)]; kernel_rfl) | (rw [if_neg (by decide +kernel)]; exact ⟨rfl, rfl⟩))
    (fun os started H enc _ F => by rw [OpenClaim.pre_eq_preRow]; exact lifted os started H enc F)

theorem plain (f : FuncId) (fn : Func) (hf : Tryd.pinned.checked.prog.funcNamed Rows.journalLimitsRow.func = some f) (hfn : Tryd.pinned.checked.prog.funcs[f]? = some fn) :
    true = Tryd.pinned.checked.prog.looks [] ∧ ∀ (j : Nat) t, fn.params[j]? = some t → Tryd.pinned.checked.prog.wantsStandIn t = false := by
  obtain rfl : f = 5 := Option.some.inj ((show Tryd.prog.funcNamed Rows.journalLimitsRow.func = some 5 by kernel_rfl).symm.trans hf) |>.symm
  obtain rfl : fn = Tryd.f5 := (Option.some.inj (Tryd.func5.symm.trans hfn)).symm
  refine ⟨by kernel_rfl, fun j t ht => ?_⟩
  rw [Tryd.params5] at ht
  have hm : t ∈ [5, 3] := by simpa using Array.mem_of_getElem? ht
  have hall : ([5, 3].all fun u => !Tryd.prog.wantsStandIn u) = true := by kernel_rfl
  exact (show Tryd.prog.wantsStandIn t = false by simpa using List.all_eq_true.1 hall t hm)

theorem card : Rows.JournalLimitsCardSaid :=
  Claim7.holds_tied_plain_at .later [] _ _ _ _ said (fun _ h => by cases h) (by kernel_rfl) (fun _ h => by cases h) journalLimits_row_tie rfl ⟨rfl, rfl⟩ (by kernel_rfl) rfl plain (by kernel_rfl)
end Go.Proofs.YtkhdhelhkokdcaaDoor.journalLimits
