/- JournalChanged: for every string, every index and every byte the law answers true and leaves its arguments alone; no condition. -/
import Derived.Lay
import Derived.Test.YtkhdhelhkokdcaaDoorCards
import Derived.Test.YtkhdhelhkokdcaaDoorTie
import Derived.Test.YtkhdhelhkokdcaaDoorJrnLaid
import Derived.Test.YtkhdhelhkokdcaaDoorJrnAwake
import Derived.Test.YtkhdhelhkokdcaaDoorJrnChP
import Derived.Test.YtkhdhelhkokdcaaDoorCodRefInt
namespace Go.Proofs.YtkhdhelhkokdcaaDoor.journalChanged
open Go.ChangeShapes Go.WideShapes Go.ChangeAt Go.RowKit
open Go.ChangeMaps (open_string)


theorem parts {s : ByteArray} {k : Nat} {c : UInt8} (hk : k < s.size) (hc : s[k] = c) : s = s.extract 0 k ++ ⟨#[c]⟩ ++ s.extract (k + 1) s.size := by
  refine (split_at s c k ?_).symm
  rw [List.getElem?_eq_getElem (by simpa using hk)]
  exact congrArg some hc
theorem chl (A S T : List UInt8) (k : Nat) (c : UInt8) (hk : k < S.length) : (A ++ 58 :: (S ++ T)).take (A.length + 1 + k) ++ [c] ++ (A ++ 58 :: (S ++ T)).drop (A.length + 1 + k + 1) = A ++ 58 :: ((S.take k ++ [c] ++ S.drop (k + 1)) ++ T) := by
  have e : A ++ 58 :: (S ++ T) = (A ++ [58]) ++ (S ++ T) := by simp
  have e1 : A.length + 1 = (A ++ [58]).length := by simp
  rw [e, e1, Nat.add_assoc, List.take_length_add_append, List.drop_length_add_append, List.take_append_of_le_length (by omega), List.drop_append_of_le_length (by omega)]
  simp
theorem changed_list {s E : ByteArray} {k q : Nat} {c : UInt8} (A T : List UInt8) (hA : A.length = q) (hk : k < s.size) (hE : E.data.toList = A ++ 58 :: (s.data.toList ++ T)) :
    (E.extract 0 (q + 1 + k) ++ ⟨#[c]⟩ ++ E.extract (q + 1 + k + 1) E.size).data.toList = A ++ 58 :: ((s.extract 0 k ++ ⟨#[c]⟩ ++ s.extract (k + 1) s.size).data.toList ++ T) := by
  subst hA
  have h := chl A s.data.toList T k c (by simpa using hk)
  rw [← hE, ← ext_front, ← ext_front, ← ext_back, ← ext_back] at h
  simpa [ByteArray.data_append] using h
theorem conv1d (w : World) (b : UInt8) : (convert 46 9 (.slice (some ⟨w.heap.size, 0, none⟩) 1 1)).run Tryd.prog (w.alloc (.cells #[.int .u8 (b.toNat : Int)] 5)).drew =
    .ok (.string ⟨#[b]⟩) (w.alloc (.cells #[.int .u8 (b.toNat : Int)] 5)).drew := by
  refine run_convert_bytes_back (w.alloc (.cells #[.int .u8 (b.toNat : Int)] 5)).drew 46 9 5 ⟨w.heap.size, 0, none⟩ 1 [b] Tryd.underlying46 Tryd.underlying5 Tryd.underlying9 (fun j hj => ?_)
  have : j = 0 := by simp at hj; omega
  subst this
  simp [go_sem, Addr.add]
set_option maxHeartbeats 8000000 in
set_option maxRecDepth 100000 in
theorem walk (s : ByteArray) (n : Int) (z : Int) (w : World) (hd : DigOk w) (hp : PowOk w) (hE : ErrsOk w) (hs : s.size ≤ 9223372036854775807) (z0 : 0 ≤ z) (z1 : z ≤ 255) :
    Calls Tryd.prog 8 #[.string s, .int .i64 n, .int .u8 z] w fun e w' => e = .returned (.bool true) ∧ Below w.heap.size w w' := by
  have B0 := Lib.hid (Below.refl w.heap.size w)
  obtain ⟨c, rfl⟩ : ∃ c : UInt8, z = (c.toNat : Int) := ⟨UInt8.ofNat z.toNat, by simp; omega⟩
  have hcs : (((s.size : Int) == 0) = true) ∨ ((((s.size : Int) == 0) = false) ∧ 300 < s.size) ∨ ((((s.size : Int) == 0) = false) ∧ s.size ≤ 300 ∧ n < 0) ∨ ((((s.size : Int) == 0) = false) ∧ s.size ≤ 300 ∧ 0 ≤ n ∧ (s.size : Int) ≤ n) ∨ ∃ k : Nat, n = k ∧ (((s.size : Int) == 0) = false) ∧ s.size ≤ 300 ∧ ∃ h : k < s.size, s[k] = c ∨ s[k] ≠ c := by
    by_cases h1 : s.size = 0
    · exact .inl (by rw [beq_iff_eq]; omega)
    · have hb : ((s.size : Int) == 0) = false := by rw [beq_eq_false_iff_ne]; omega
      by_cases h2 : 300 < s.size
      · exact .inr (.inl ⟨hb, h2⟩)
      · by_cases h3 : n < 0
        · exact .inr (.inr (.inl ⟨hb, by omega, h3⟩))
        · by_cases h4 : (s.size : Int) ≤ n
          · exact .inr (.inr (.inr (.inl ⟨hb, by omega, by omega, h4⟩)))
          · obtain ⟨k, hk⟩ := Int.eq_ofNat_of_zero_le (show 0 ≤ n by omega)
            exact .inr (.inr (.inr (.inr ⟨k, hk, hb, by omega, by omega, by by_cases h : s[k]'(by omega) = c; exact .inl h; exact .inr h⟩)))
  rcases hcs with h | ⟨h, h2⟩ | ⟨h, h2, h3⟩ | ⟨h, h2, h3, h4⟩ | ⟨k, rfl, h, h2, hk, h5⟩
  ·
    go_enter Tryd.func8, Tryd.ntmps8
    go_wp2_with fail
    refine (awake_any _ (hd.below B0.out) (hp.below B0.out) (hE.below B0.out)).mono ?_
    rintro e w1 ⟨rfl, hb1⟩
    have B1 := Lib.hid (bthen B0.out hb1)
    have G1 := Lib.hid hb1
    clear hb1
    go_wp2_with fail
    go_ret
    exact ⟨rfl, B1.out⟩
  ·
    go_enter Tryd.func8, Tryd.ntmps8
    go_wp2_with fail
    refine (awake_any _ (hd.below B0.out) (hp.below B0.out) (hE.below B0.out)).mono ?_
    rintro e w1 ⟨rfl, hb1⟩
    have B1 := Lib.hid (bthen B0.out hb1)
    have G1 := Lib.hid hb1
    clear hb1
    go_wp2_with fail
    go_ret
    exact ⟨rfl, B1.out⟩
  ·
    go_enter Tryd.func8, Tryd.ntmps8
    go_wp2_with fail
    refine (awake_any _ (hd.below B0.out) (hp.below B0.out) (hE.below B0.out)).mono ?_
    rintro e w1 ⟨rfl, hb1⟩
    have B1 := Lib.hid (bthen B0.out hb1)
    have G1 := Lib.hid hb1
    clear hb1
    go_wp2_with fail
    go_ret
    exact ⟨rfl, B1.out⟩
  ·
    go_enter Tryd.func8, Tryd.ntmps8
    go_wp2_with fail
    refine (awake_any _ (hd.below B0.out) (hp.below B0.out) (hE.below B0.out)).mono ?_
    rintro e w1 ⟨rfl, hb1⟩
    have B1 := Lib.hid (bthen B0.out hb1)
    have G1 := Lib.hid hb1
    clear hb1
    go_wp2_with fail
    go_ret
    exact ⟨rfl, B1.out⟩
  · rcases h5 with h5 | h5
    · have hceq : ((s[k].toNat : Int) == (c.toNat : Int)) = true := by rw [h5]; simp
      clear h5
      go_enter Tryd.func8, Tryd.ntmps8
      go_wp2_with fail
      refine (awake_any _ (hd.below B0.out) (hp.below B0.out) (hE.below B0.out)).mono ?_
      rintro e w1 ⟨rfl, hb1⟩
      have B1 := Lib.hid (bthen B0.out hb1)
      have G1 := Lib.hid hb1
      clear hb1
      go_wp2_with fail
      go_ret
      exact ⟨rfl, B1.out⟩
    · have hcne : ((s[k].toNat : Int) == (c.toNat : Int)) = false := by
        rw [beq_eq_false_iff_ne]; intro e; exact h5 (UInt8.toNat_inj.1 (by omega))
      have HNE := Lib.hid h5
      clear h5
      have HPT := Lib.hid (parts hk rfl)
      have hez := encS_size s
      have hiz := itoaS_size s.size (by omega) (by omega)
      obtain ⟨q, hq⟩ : ∃ q, (itoaS s.size).size = q := ⟨_, rfl⟩
      have HEL := Lib.hid (enc_list s)
      have HQ := Lib.hid hq
      have hqq : q ≤ 21 := by omega
      have hEz : (encS s).size = q + s.size + 18 := by omega
      have HEZ := Lib.hid hEz
      have kc := fun (w : World) (b : UInt8) => conv1d w b
      clear hez hiz hq
      go_enter Tryd.func8, Tryd.ntmps8
      go_wp2_with fail
      refine (enc_any s _ hd hp (by omega)).mono ?_
      rintro e w1 ⟨rfl, hb1⟩
      have B1 := Lib.hid hb1
      clear hb1
      have hk17 : ((encS s).size : Int) - 17 - (s.size : Int) + (k : Int) = ((q + 1 + k : Nat) : Int) := by omega
      obtain ⟨E, HEE⟩ : ∃ E, Hid (encS s = E) := ⟨_, Lib.hid rfl⟩
      rw [HEE.out] at hk17 hEz HEZ HEL
      rw [HEE.out]
      have hE1 : E.size ≤ 400 := by omega
      have hE2 : q + 1 + k + 1 ≤ E.size := by omega
      obtain ⟨K, HK⟩ : ∃ K, Hid (q + 1 + k = K) := ⟨_, Lib.hid rfl⟩
      rw [HK.out] at hk17 hE2
      have i1 : (0 : Int) ≤ (K : Int) := by omega
      have i2 : (K : Int) ≤ (E.size : Int) := by omega
      have i3 : (0 : Int) ≤ (K : Int) + 1 := by omega
      have i4 : (K : Int) + 1 ≤ (E.size : Int) := by omega
      have i5 : IntKind.i64.wrap ((K : Int) + 1) = (K : Int) + 1 := IntWalk.i64_in _ (by omega)
      have i6 : ((K : Int) + 1).toNat = K + 1 := by omega
      have HDC := Lib.hid (fun wq a b' d => decode_any (E.extract 0 K ++ ⟨#[c]⟩ ++ E.extract (K + 1) E.size) wq a b' d (by simp only [ByteArray.size_append, ByteArray.size_extract]; show _ + 1 + _ ≤ _; omega))
      have hcc1 : ¬ 9223372036854775807 < (E.extract 0 K).size + 1 := by rw [ByteArray.size_extract]; omega
      have hcc2 : ¬ 9223372036854775807 < (E.extract 0 K).size + 1 + (E.extract (K + 1) E.size).size := by simp only [ByteArray.size_extract]; omega
      clear hEz
      go_wp2_with fail
      go_region_with (first
        | (go_at_call 10; refine (HDC.out _ ?_ ?_ ?_).mono ?_; exact (hd.below (B1.out.alloc B1.out.size _)).drew; exact (hp.below (B1.out.alloc B1.out.size _)).drew; exact (hE.below (B1.out.alloc B1.out.size _)).drew; rintro e w2 ⟨⟨v2, l2, n2, rfl, hown2, hD2, hnil2⟩, hb2⟩)
        | fail)
      all_goals
        clear hown2
        have B2 := Lib.hid ((B1.out.alloc B1.out.size (Obj.cells #[Value.int IntKind.u8 c.toNat] 5)).drew.trans (hb2.mono (B1.out.alloc B1.out.size (Obj.cells #[Value.int IntKind.u8 c.toNat] 5)).drew.size))
        clear hb2
        have HNO : firstO (E.extract 0 K ++ ⟨#[c]⟩ ++ E.extract (K + 1) E.size) = none := by
          refine changed_none (p := s.extract 0 k) (q := s.extract (k + 1) s.size) (a := s[k]) (b := c) HNE.out ?_
          rw [← HPT.out, ← HK.out]
          refine changed_list _ _ ?_ hk HEL.out
          have := HQ.out
          rw [itoaS_nat] at this
          exact this
        obtain ⟨rfl, rfl⟩ := changed_dec HNO hD2
        cases hnil2 rfl
        clear hD2 HNO
        go_wp2_with fail
        refine (awake_any _ (hd.below B2.out) (hp.below B2.out) (hE.below B2.out)).mono ?_
        rintro e w3 ⟨rfl, hb3⟩
        have B3 := Lib.hid (bthen B2.out hb3)
        clear hb3
        go_wp2_with fail
        go_ret
        exact ⟨rfl, B3.out⟩

set_option maxRecDepth 100000 in
/-- What the walk gives, for every argument and every world that holds the listed variables. -/
theorem contract (H : Type) (enc : TypeId × Value → H) (W : World) (base : Nat) (args : Array Value) (ds gs : List (DataW H)) (before : List MemPlace)
    (hval : ∀ (j : Nat) t v, Tryd.f8.params[j]? = some t → args[j]? = some v → Value.okWide Tryd.prog W .any base t v)
    (hW : DataW.Whole enc Tryd.prog Tryd.f8.params.toList Rows.journalChangedSpec.vars false W args.toList ds gs before) (hL : laidMetH Tryd.prog Rows.journalChangedRow.laid W) :
    Calls Tryd.prog 8 args W fun e W' => ∃ v, e = .returned v ∧ Rows.journalChangedSpec.post enc Tryd.prog Tryd.f8 false true false false W args v W' := by
  have hW' := hW
  obtain ⟨p, q, hA0, hV, rfl, hfz, hnd⟩ := hW
  obtain ⟨rfl, rfl⟩ := trodVars_none hV
  have hA1 : DataW.TrodAll enc Tryd.prog W 0 (fun _ => true) true Tryd.f8.params.toList args.toList ds (p ++ []) := by rw [List.append_nil]; exact hA0
  have hA : DataW.TrodAll enc Tryd.prog W 0 (fun _ => true) true Tryd.f8.params.toList args.toList ds p := hA0
  rw [Tryd.params8] at hA hval
  obtain ⟨v0, vs0, d0, ds0, p0, q0, hargs, rfl, rfl, h0, r0⟩ := trodAll_cons hA
  obtain ⟨v1, vs1, d1, ds1, p1, q1, rfl, rfl, rfl, h1, r1⟩ := trodAll_cons r0
  obtain ⟨v2, vs2, d2, ds2, p2, q2, rfl, rfl, rfl, h2, r2⟩ := trodAll_cons r1
  obtain ⟨rfl, rfl, rfl⟩ := trodAll_nil r2
  obtain rfl : args = #[v0, v1, v2] := by cases args; simp_all
  obtain ⟨s0, rfl, rfl, rfl, hs0⟩ := open_string Tryd.underlying9 (hval 0 9 v0 rfl rfl) h0
  have hs0 : s0.size ≤ 9223372036854775807 := by unfold maxLen at hs0; exact hs0
  obtain ⟨n1, rfl, rfl, rfl, wn1⟩ := open_int Tryd.underlying3 (hval 1 3 v1 rfl rfl) h1
  obtain ⟨_, _⟩ := bounds_i64 wn1
  obtain ⟨n2, rfl, rfl, rfl, wn2⟩ := open_int Tryd.underlying5 (hval 2 5 v2 rfl rfl) h2
  obtain ⟨lo2, hi2⟩ := bounds_u8 wn2
  obtain ⟨hd, hp, hE⟩ := laid_tabs hL
  refine (walk s0 n1 n2 W hd hp hE hs0 lo2 hi2).mono fun e W' ⟨he, hb⟩ => ?_
  subst he
  exact ⟨_, rfl, law_post laidOut (by kernel_rfl) (by kernel_rfl) Tryd.underlying4 hW' rfl rfl hA1 hb⟩

set_option maxRecDepth 100000 in
theorem reads (w : World) {H : Type} (enc : TypeId × Value → H) : ∃ places, DataW.whole enc Tryd.prog w Tryd.f8.params.toList Rows.journalChangedSpec.vars false #[Value.string ByteArray.empty, .int .i64 0, .int .u8 0].toList 8 = some ([.lit (.string []), .lit (.int .i64 0), .lit (.int .u8 0)], [], places) :=
  ⟨[], by kernel_rfl⟩
theorem args_ok (w : World) : Input.okWideB Tryd.prog w 8 ⟨#[], #[.string ByteArray.empty, .int .i64 0, .int .u8 0], []⟩ = true := by kernel_rfl
set_option maxRecDepth 100000 in
theorem lifted (os : Os) (started : os.Started) (H : Type) (enc : TypeId × Value → H) (F : Stop.Interp) :
    ReturnsInHanded {} Tryd.checked os 8 .any ((OpenSpec.ofChange Rows.journalChangedSpec).preRow enc Tryd.prog Tryd.f8 Rows.journalChangedRow.domain false Rows.journalChangedRow.laid) (((OpenSpec.ofChange Rows.journalChangedSpec).at F).post enc Tryd.prog Tryd.f8 false true false false) := by
  obtain ⟨places, hx⟩ := reads _ enc
  refine returnsInHanded_of_row (C := Tryd.checked) (s := OpenSpec.ofChange Rows.journalChangedSpec) own started (by kernel_rfl) Tryd.func8
    (witness_row_at (enc := enc) (C := Tryd.checked) false (World.laidAll Tryd.prog os laidList) #[.string ByteArray.empty, .int .i64 0, .int .u8 0] (World.laidAll_os _ _ _) (w_hv os _) (w_hr os _) (args_ok _)
      (OpenSpec.preRow_of_cond 8 hx (by kernel_rfl) (fun k hk => by cases hk) (by kernel_rfl) (w_laid os _))) ?_
  intro W base args ds gs before hval hW _ _ _ hL _ _
  exact contract H enc W base args ds gs before hval hW hL

theorem said : Rows.JournalChangedSaid :=
  OpenClaim.holds_of_cond 8 Tryd.f8 rfl rfl rfl rfl rfl rfl rfl ⟨rfl, rfl, rfl, rfl, rfl⟩ rfl rfl rfl rfl rfl (by kernel_rfl) Tryd.func8 (by kernel_rfl)
    (of_decide_eq_true (by kernel_rfl)) (by unfold Func.isWrapper; first | (rw [if_pos (by decide +kernel)]; kernel_rfl) | (rw [if_neg (by decide +kernel)]; exact ⟨rfl, rfl⟩))
    (fun os started H enc _ F => by rw [OpenClaim.pre_eq_preRow]; exact lifted os started H enc F)

theorem plain (f : FuncId) (fn : Func) (hf : Tryd.pinned.checked.prog.funcNamed Rows.journalChangedRow.func = some f) (hfn : Tryd.pinned.checked.prog.funcs[f]? = some fn) :
    true = Tryd.pinned.checked.prog.looks [] ∧ ∀ (j : Nat) t, fn.params[j]? = some t → Tryd.pinned.checked.prog.wantsStandIn t = false := by
  obtain rfl : f = 8 := Option.some.inj ((show Tryd.prog.funcNamed Rows.journalChangedRow.func = some 8 by kernel_rfl).symm.trans hf) |>.symm
  obtain rfl : fn = Tryd.f8 := (Option.some.inj (Tryd.func8.symm.trans hfn)).symm
  refine ⟨by kernel_rfl, fun j t ht => ?_⟩
  rw [Tryd.params8] at ht
  have hm : t ∈ [9, 3, 5] := by simpa using Array.mem_of_getElem? ht
  have hall : ([9, 3, 5].all fun u => !Tryd.prog.wantsStandIn u) = true := by kernel_rfl
  exact (show Tryd.prog.wantsStandIn t = false by simpa using List.all_eq_true.1 hall t hm)

theorem card : Rows.JournalChangedCardSaid :=
  Claim7.holds_tied_plain_at .later [] _ _ _ _ said (fun _ h => by cases h) (by kernel_rfl) (fun _ h => by cases h) journalChanged_row_tie rfl ⟨rfl, rfl⟩ (by kernel_rfl) rfl plain (by kernel_rfl)
end Go.Proofs.YtkhdhelhkokdcaaDoor.journalChanged
