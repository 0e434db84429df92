/- ClaimsEncodes: for every claims and every string the law answers true and leaves its arguments alone; no condition. -/
import Derived.Lay
import Derived.Test.YtpmikpijonccjaaGreatDoorCards
import Derived.Test.YtpmikpijonccjaaGreatDoorTie
import Derived.Test.YtpmikpijonccjaaGreatDoorSeg4
import Derived.Test.YtpmikpijonccjaaGreatDoorSeg10
import Derived.Test.YtpmikpijonccjaaGreatDoorSeg9
import Derived.Test.YtpmikpijonccjaaGreatDoorSeg13
import Derived.Test.YtpmikpijonccjaaGreatDoorSeg11
import Derived.Test.YtpmikpijonccjaaGreatDoorSeg12
namespace Go.Proofs.YtpmikpijonccjaaGreatDoor.claimsEncodes
open Go.ChangeShapes Go.WideShapes Go.ChangeAt Go.RowKit
open Go.ChangeMaps (open_string)


/-- What Decode returns, in one form. -/
theorem dec_form {s : ByteArray} {e : Ending} {w' : World} (h : RetDec25 s e w') : ∃ d q E, e = .returned (.tuple #[clV d q, .int .i64 E]) ∧ ClAt w' d q ∧ ClIn d q ∧ SmallL d ∧ ((E = 0 ∧ IsDec s d) ∨ (d = cl0 ∧ E = decE s ∧ ∀ c, ¬ IsDec s c)) := by
  rcases h with ⟨c, p, rfl, hd, ha, hi⟩ | ⟨rfl, hn⟩
  · exact ⟨c, p, 0, rfl, ha, hi, SmallL.of (check_small hd.1), .inl ⟨rfl, hd⟩⟩
  · exact ⟨cl0, p30, decE s, rfl, ⟨Strs.nil_ _ _, Strs.nil_ _ _, Strs.nil_ _ _⟩, ClIn.fits (by decide +kernel) ⟨Nat.le_refl _, Nat.le_refl _, Nat.le_refl _⟩, ⟨by decide, by decide, by decide⟩, .inr ⟨rfl, rfl, hn⟩⟩
theorem dec_same {s : ByteArray} {c d : Cl} {E G : Int} (h : (E = 0 ∧ IsDec s c) ∨ (c = cl0 ∧ E = decE s ∧ ∀ c, ¬ IsDec s c)) (h' : (G = 0 ∧ IsDec s d) ∨ (d = cl0 ∧ G = decE s ∧ ∀ c, ¬ IsDec s c)) : c = d ∧ E = G := by
  rcases h with ⟨rfl, h⟩ | ⟨rfl, rfl, h⟩ <;> rcases h' with ⟨rfl, h'⟩ | ⟨rfl, rfl, h'⟩
  · exact ⟨isDec_inj h h', rfl⟩
  · exact absurd h (h' _)
  · exact absurd h' (h _)
  · exact ⟨rfl, rfl⟩

set_option maxHeartbeats 8000000 in
set_option maxRecDepth 100000 in
theorem walk (c : Cl) (s : ByteArray) (p : P3) (w : World) (hk : KeysOk w) (hp : PowOk w) (hE : ErrsOk w) (hc : ClAt w c p) (ic : ClIn c p) :
    Calls Tryz.prog 4 #[clV c p, .string s] w fun e w' => e = .returned (.bool true) ∧ Below w.heap.size w w' := by
  have B1 : Hid (Below w.heap.size w (w.alloc (clO c p))) := Lib.hid ((Below.refl _ _).alloc (Nat.le_refl _) _)
  have X1 : Hid (ClBox (w.alloc (clO c p)) w.heap.size c p) := Lib.hid (ClBox.new w c p)
  have A1 := Lib.hid (hc.below B1.out)
  have IC := Lib.hid ic
  clear hc ic
  by_cases hl : lightC c = true
  · have HL := Lib.hid hl
    clear hl
    by_cases hs : s.size ≤ 5000
    · have t1 : decide ((5000 : Int) < (s.size : Int)) = false := decide_eq_false (by omega)
      obtain ⟨E, HE⟩ : ∃ E, Hid (encE c = E) := ⟨_, Lib.hid rfl⟩
      obtain ⟨T, HT⟩ : ∃ T, Hid (encV c = T) := ⟨_, Lib.hid rfl⟩
      have een : (E == E) = true := by simp
      have ttn : (T.toList == T.toList) = true := by simp
      go_enter Tryz.func4, Tryz.ntmps4
      go_wp2_with (first | (refine box_cl rfl _ rfl _ rfl c p rfl ?_) | (refine load_cl rfl _ rfl _ rfl w.heap.size rfl c p X1 ?_) | fail)
      refine (light25_any c p _ A1.out IC.out.m1 IC.out.m2 IC.out.m3).mono ?_
      rintro e w2 ⟨rfl, hb2⟩
      rw [HL.out]
      have X2 := Lib.hid (X1.out.below hb2)
      have A2 := Lib.hid (A1.out.below hb2)
      have B2 := Lib.hid (bthen B1.out hb2)
      clear hb2
      go_wp2_with (first | (refine load_cl rfl _ rfl _ rfl w.heap.size rfl c p X2 ?_) | fail)
      clear t1
      refine (encode_any c p _ IC.out A2.out (hk.below B2.out) (hp.below B2.out)).mono ?_
      rintro e w3 ⟨rfl, hb3⟩
      rw [HE.out, HT.out]
      have X3 := Lib.hid (X2.out.below hb3)
      have A3 := Lib.hid (A2.out.below hb3)
      have B3 := Lib.hid (bthen B2.out hb3)
      clear hb3 X2 A2 B2
      go_wp2_with (first | (refine load_cl rfl _ rfl _ rfl w.heap.size rfl c p X3 ?_) | fail)
      refine (rencode_any c p _ IC.out A3.out).mono ?_
      rintro e w4 ⟨rfl, hb4⟩
      rw [HE.out, HT.out]
      have B4 := Lib.hid (bthen B3.out hb4)
      clear hb4 X3 A3 B3
      go_wp2_with fail
      refine (decode_any s _ (by omega) (hk.below B4.out) (hp.below B4.out) (hE.below B4.out)).mono ?_
      rintro e w5 ⟨hr5, hb5⟩
      obtain ⟨d, q, G, rfl, hat, hin, hsm, hd⟩ := dec_form hr5
      have ID := Lib.hid hd
      have SM := Lib.hid hsm
      have Z5 : Hid (ClBox (w5.alloc (clO cl0 p30)) w5.heap.size cl0 p30) := Lib.hid (ClBox.new _ _ _)
      have B5 := Lib.hid (bthen B4.out (bthen hb5 (below_cl w5 d q)))
      have D5 := Lib.hid (hat.below (below_cl w5 d q))
      have H5 := Lib.hid (Has.cl (l := []) (fun x hx => by simp at hx) d q : Has ((w5.alloc (clO cl0 p30)).setRow w5.heap.size (clA d q)) _)
      clear hb5 hr5 hat hin hsm hd B4
      obtain ⟨g5, HG5⟩ : ∃ g, Hid (w5.heap.size = g) := ⟨_, Lib.hid rfl⟩
      obtain ⟨W5, HW5⟩ : ∃ W, Hid (((w5.alloc (clO cl0 p30)).setRow w5.heap.size (clA d q)) = W) := ⟨_, Lib.hid rfl⟩
      rw [HW5.out] at B5 D5 H5
      rw [HG5.out] at H5
      go_wp2_with (first
        | (refine alloc_cl rfl _ rfl rfl ?_)
        | (refine store_cl rfl _ rfl _ _ rfl w5.heap.size rfl d q rfl cl0 p30 Z5 ?_; rw [HW5.out, HG5.out])
        | fail)
      clear Z5 HW5
      refine (rdecode25_any s _ (by omega)).mono ?_
      rintro e w6 ⟨hr6, hb6⟩
      obtain ⟨d6, q6, G6, rfl, hat, hin, hsm, hd⟩ := dec_form hr6
      obtain ⟨rfl, rfl⟩ := dec_same ID.out hd
      have ggn : (G == G) = true := by simp
      have Z6 : Hid (ClBox (w6.alloc (clO cl0 p30)) w6.heap.size cl0 p30) := Lib.hid (ClBox.new _ _ _)
      have B6 := Lib.hid (bthen B5.out (bthen hb6 (below_cl w6 d q6)))
      have D6 := Lib.hid ((D5.out.below hb6).below (below_cl w6 d q6))
      have F6 := Lib.hid (hat.below (below_cl w6 d q6))
      have H6 := Lib.hid ((H5.out.below hb6).cl d q6)
      clear hb6 hr6 hat hin hsm hd B5 D5 H5
      obtain ⟨g6, HG6⟩ : ∃ g, Hid (w6.heap.size = g) := ⟨_, Lib.hid rfl⟩
      obtain ⟨W6, HW6⟩ : ∃ W, Hid (((w6.alloc (clO cl0 p30)).setRow w6.heap.size (clA d q6)) = W) := ⟨_, Lib.hid rfl⟩
      rw [HW6.out] at B6 D6 F6 H6
      rw [HG6.out] at H6
      have XA : Hid (ClBox W6 g5 d q) := Lib.hid (H6.out.get _ _ (by simp))
      have XB : Hid (ClBox W6 g6 d q6) := Lib.hid (H6.out.get _ _ (by simp))
      go_wp2_with (first
        | (refine alloc_cl rfl _ rfl rfl ?_)
        | (refine store_cl rfl _ rfl _ _ rfl w6.heap.size rfl d q6 rfl cl0 p30 Z6 ?_; rw [HW6.out, HG6.out])
        | (refine load_cl_g rfl _ rfl _ rfl g5 rfl d q XA ?_)
        | (refine load_cl_g rfl _ rfl _ rfl g6 rfl d q6 XB ?_)
        | fail)
      clear Z6 HW6 XA XB
      refine (requal_any d d q q6 _ D6.out F6.out SM.out SM.out).mono ?_
      rintro e w7 ⟨rfl, hb7⟩
      rw [(eqB_iff d d).2 rfl]
      have BL := Lib.hid (bthen B6.out hb7)
      clear hb7
      go_wp2_with fail
      refine (awake25_any _ (hk.below BL.out) (hp.below BL.out) (hE.below BL.out)).mono ?_
      rintro e wz ⟨rfl, hbz⟩
      have BZ := Lib.hid (bthen BL.out hbz)
      clear hbz
      go_wp2_with fail
      go_ret
      exact ⟨rfl, BZ.out⟩
    · have t1 : decide ((5000 : Int) < (s.size : Int)) = true := decide_eq_true (by omega)
      clear hs
      go_enter Tryz.func4, Tryz.ntmps4
      go_wp2_with (first | (refine box_cl rfl _ rfl _ rfl c p rfl ?_) | (refine load_cl rfl _ rfl _ rfl w.heap.size rfl c p X1 ?_) | fail)
      refine (light25_any c p _ A1.out IC.out.m1 IC.out.m2 IC.out.m3).mono ?_
      rintro e w2 ⟨rfl, hb2⟩
      rw [HL.out]
      have X2 := Lib.hid (X1.out.below hb2)
      have A2 := Lib.hid (A1.out.below hb2)
      have B2 := Lib.hid (bthen B1.out hb2)
      clear hb2
      have BL := B2
      go_wp2_with fail
      refine (awake25_any _ (hk.below BL.out) (hp.below BL.out) (hE.below BL.out)).mono ?_
      rintro e wz ⟨rfl, hbz⟩
      have BZ := Lib.hid (bthen BL.out hbz)
      clear hbz
      go_wp2_with fail
      go_ret
      exact ⟨rfl, BZ.out⟩
  · have HL : Hid (lightC c = false) := Lib.hid (by simpa using hl)
    clear hl
    go_enter Tryz.func4, Tryz.ntmps4
    go_wp2_with (first | (refine box_cl rfl _ rfl _ rfl c p rfl ?_) | (refine load_cl rfl _ rfl _ rfl w.heap.size rfl c p X1 ?_) | fail)
    refine (light25_any c p _ A1.out IC.out.m1 IC.out.m2 IC.out.m3).mono ?_
    rintro e w2 ⟨rfl, hb2⟩
    rw [HL.out]
    have BL := Lib.hid (bthen B1.out hb2)
    clear hb2
    go_wp2_with fail
    refine (awake25_any _ (hk.below BL.out) (hp.below BL.out) (hE.below BL.out)).mono ?_
    rintro e wz ⟨rfl, hbz⟩
    have BZ := Lib.hid (bthen BL.out hbz)
    clear hbz
    go_wp2_with fail
    go_ret
    exact ⟨rfl, BZ.out⟩

set_option maxRecDepth 100000 in
/-- What the walk gives, for every argument and every world that holds the listed variables. -/
theorem contract (H : Type) (enc : TypeId × Value → H) (W : World) (base : Nat) (args : Array Value) (ds gs : List (DataW H)) (before : List MemPlace)
    (hval : ∀ (j : Nat) t v, Tryz.f4.params[j]? = some t → args[j]? = some v → Value.okWide Tryz.prog W .any base t v)
    (hW : DataW.Whole enc Tryz.prog Tryz.f4.params.toList Rows.claimsEncodesSpec.vars false W args.toList ds gs before) (hL : laidMetH Tryz.prog Rows.claimsEncodesRow.laid W) :
    Calls Tryz.prog 4 args W fun e W' => ∃ v, e = .returned v ∧ Rows.claimsEncodesSpec.post enc Tryz.prog Tryz.f4 false true false false W args v W' := by
  have hW' := hW
  obtain ⟨p, q, hA0, hV, rfl, hfz, hnd⟩ := hW
  obtain ⟨rfl, rfl⟩ := trodVars_none hV
  have hA1 : DataW.TrodAll enc Tryz.prog W 0 (fun _ => true) true Tryz.f4.params.toList args.toList ds (p ++ []) := by rw [List.append_nil]; exact hA0
  have hA : DataW.TrodAll enc Tryz.prog W 0 (fun _ => true) true Tryz.f4.params.toList args.toList ds p := hA0
  rw [Tryz.params4] at hA hval
  obtain ⟨v0, vs0, d0, ds0, p0, q0, hargs, rfl, rfl, h0, r0⟩ := trodAll_cons hA
  obtain ⟨v1, vs1, d1, ds1, p1, q1, rfl, rfl, rfl, h1, r1⟩ := trodAll_cons r0
  obtain ⟨rfl, rfl, rfl⟩ := trodAll_nil r1
  obtain rfl : args = #[v0, v1] := by cases args; simp_all
  obtain ⟨x0, q0, rfl, at0, in0⟩ := open_cl (hval 0 24 v0 rfl rfl) h0
  obtain ⟨s1, rfl, rfl, rfl, hs1⟩ := open_string Tryz.underlying9 (hval 1 9 v1 rfl rfl) h1
  have hs1 : s1.size ≤ 9223372036854775807 := by unfold maxLen at hs1; exact hs1
  obtain ⟨hk, hp, hE⟩ := laid_tabs hL
  refine (walk x0 s1 q0 W hk hp hE at0 in0).mono fun e W' ⟨he, hb⟩ => ?_
  subst he
  exact ⟨_, rfl, law_post laidOut (by kernel_rfl) (by kernel_rfl) Tryz.underlying4 hW' rfl rfl hA1 hb⟩

set_option maxRecDepth 100000 in
theorem reads (w : World) {H : Type} (enc : TypeId × Value → H) : ∃ places, DataW.whole enc Tryz.prog w Tryz.f4.params.toList Rows.claimsEncodesSpec.vars false #[Value.agg #[.string ByteArray.empty, .string ByteArray.empty, .string ByteArray.empty, .string ByteArray.empty, .string ByteArray.empty, .string ByteArray.empty, .string ByteArray.empty, .string ByteArray.empty, .slice none 0 0, .slice none 0 0, .slice none 0 0, .int .i64 0, .int .i64 0, .int .i64 0, .int .i64 0, .int .i64 0], .string ByteArray.empty].toList 8 = some ([.agg [.lit (.string []), .lit (.string []), .lit (.string []), .lit (.string []), .lit (.string []), .lit (.string []), .lit (.string []), .lit (.string []), .nil, .nil, .nil, .lit (.int .i64 0), .lit (.int .i64 0), .lit (.int .i64 0), .lit (.int .i64 0), .lit (.int .i64 0)], .lit (.string [])], [], places) :=
  ⟨[], by kernel_rfl⟩
theorem args_ok (w : World) : Input.okWideB Tryz.prog w 4 ⟨#[], #[.agg #[.string ByteArray.empty, .string ByteArray.empty, .string ByteArray.empty, .string ByteArray.empty, .string ByteArray.empty, .string ByteArray.empty, .string ByteArray.empty, .string ByteArray.empty, .slice none 0 0, .slice none 0 0, .slice none 0 0, .int .i64 0, .int .i64 0, .int .i64 0, .int .i64 0, .int .i64 0], .string ByteArray.empty], []⟩ = true := by kernel_rfl
set_option maxRecDepth 100000 in
theorem lifted (os : Os) (started : os.Started) (H : Type) (enc : TypeId × Value → H) (F : Stop.Interp) :
    ReturnsInHanded {} Tryz.checked os 4 .any ((OpenSpec.ofChange Rows.claimsEncodesSpec).preRow enc Tryz.prog Tryz.f4 Rows.claimsEncodesRow.domain false Rows.claimsEncodesRow.laid) (((OpenSpec.ofChange Rows.claimsEncodesSpec).at F).post enc Tryz.prog Tryz.f4 false true false false) := by
  obtain ⟨places, hx⟩ := reads _ enc
  refine returnsInHanded_of_row (C := Tryz.checked) (s := OpenSpec.ofChange Rows.claimsEncodesSpec) own started (by kernel_rfl) Tryz.func4
    (witness_row_at (enc := enc) (C := Tryz.checked) false (World.laidAll Tryz.prog os laidList) #[.agg #[.string ByteArray.empty, .string ByteArray.empty, .string ByteArray.empty, .string ByteArray.empty, .string ByteArray.empty, .string ByteArray.empty, .string ByteArray.empty, .string ByteArray.empty, .slice none 0 0, .slice none 0 0, .slice none 0 0, .int .i64 0, .int .i64 0, .int .i64 0, .int .i64 0, .int .i64 0], .string ByteArray.empty] (World.laidAll_os _ _ _) (w_hv os _) (w_hr os _) (args_ok _)
      (OpenSpec.preRow_of_cond 8 hx (by kernel_rfl) (fun k hk => by cases hk) (by kernel_rfl) (w_laid os _))) ?_
  intro W base args ds gs before hval hW _ _ _ hL _ _
  exact contract H enc W base args ds gs before hval hW hL

theorem said : Rows.ClaimsEncodesSaid :=
  OpenClaim.holds_of_cond 4 Tryz.f4 rfl rfl rfl rfl rfl rfl rfl ⟨rfl, rfl, rfl, rfl, rfl⟩ rfl rfl rfl rfl rfl (by kernel_rfl) Tryz.func4 (by kernel_rfl)
    (of_decide_eq_true (by kernel_rfl)) (by unfold Func.isWrapper; first | (rw [if_pos (by decide +kernel)]; kernel_rfl) | (rw [if_neg (by decide +kernel)]; exact ⟨rfl, rfl⟩))
    (fun os started H enc _ F => by rw [OpenClaim.pre_eq_preRow]; exact lifted os started H enc F)

theorem plain (f : FuncId) (fn : Func) (hf : Tryz.pinned.checked.prog.funcNamed Rows.claimsEncodesRow.func = some f) (hfn : Tryz.pinned.checked.prog.funcs[f]? = some fn) :
    true = Tryz.pinned.checked.prog.looks [] ∧ ∀ (j : Nat) t, fn.params[j]? = some t → Tryz.pinned.checked.prog.wantsStandIn t = false := by
  obtain rfl : f = 4 := Option.some.inj ((show Tryz.prog.funcNamed Rows.claimsEncodesRow.func = some 4 by kernel_rfl).symm.trans hf) |>.symm
  obtain rfl : fn = Tryz.f4 := (Option.some.inj (Tryz.func4.symm.trans hfn)).symm
  refine ⟨by kernel_rfl, fun j t ht => ?_⟩
  rw [Tryz.params4] at ht
  have hm : t ∈ [24, 9] := by simpa using Array.mem_of_getElem? ht
  have hall : ([24, 9].all fun u => !Tryz.prog.wantsStandIn u) = true := by kernel_rfl
  exact (show Tryz.prog.wantsStandIn t = false by simpa using List.all_eq_true.1 hall t hm)

theorem card : Rows.ClaimsEncodesCardSaid :=
  Claim7.holds_tied_plain_at .later [] _ _ _ _ said (fun _ h => by cases h) (by kernel_rfl) (fun _ h => by cases h) claimsEncodes_row_tie rfl ⟨rfl, rfl⟩ (by kernel_rfl) rfl plain (by kernel_rfl)
end Go.Proofs.YtpmikpijonccjaaGreatDoor.claimsEncodes
