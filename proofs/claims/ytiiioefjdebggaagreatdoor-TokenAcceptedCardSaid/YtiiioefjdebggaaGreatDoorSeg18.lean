/- Joined: TokLawP, KeyRAcc, ClmRSplit, CodRSplit, CodRReadInt. -/
import Derived.Test.YtiiioefjdebggaaGreatDoorSeg13
import Derived.Test.YtiiioefjdebggaaGreatDoorSeg10
import Derived.Test.YtiiioefjdebggaaGreatDoorSeg5
import Derived.Test.YtiiioefjdebggaaGreatDoorSeg11
import Derived.Test.YtiiioefjdebggaaGreatDoorSeg15
import Derived.Test.YtiiioefjdebggaaGreatDoorSeg9
import Derived.Test.YtiiioefjdebggaaGreatDoorSeg4
import Derived.Test.YtiiioefjdebggaaGreatDoorSeg8
import Derived.Test.YtiiioefjdebggaaGreatDoorSeg2
/- Tokens: what the laws say, in plain words. -/
namespace Go.Proofs.YtiiioefjdebggaaGreatDoor
open Go.RowKit

theorem keys_small {l : List Ky} (h : keysE l = 0) {k : Ky} (hk : k ∈ l) : k.sec.size ≤ 256 := by
  obtain ⟨j, hj, rfl⟩ := List.getElem_of_mem hk
  exact clean_small (kyE_zero ((keysE_zero h).2 j hj)).2.1
theorem few_small {l : List Ky} (h : FewK l) : ∀ k ∈ l, wordS k.id = true → k.sec.size ≤ 5000 := by
  intro k hk hw
  have h1 := h k hk
  rw [wordS, Bool.and_eq_true, decide_eq_true_iff] at hw
  have := hw.1.1
  omega
theorem sign_zero {l : List Ky} {c : Cl} {t : Int} (h : signE l c t = 0) : ∃ k, keysE l = 0 ∧ checkE c = 0 ∧ sigO l t = some k ∧ encE c = 0 ∧ signV l c t = signedS k (encV c) := by
  by_cases h1 : keysE l = 0
  · by_cases h2 : checkE c = 0
    · cases h3 : sigO l t with
      | none => rw [(sign_none h1 h2 h3).1] at h; cases h
      | some k =>
        by_cases h4 : encE c = 0
        · exact ⟨k, h1, h2, rfl, h4, (sign_ok h1 h2 h3 h4).2⟩
        · rw [(sign_enc h1 h2 h3 h4).1] at h; exact absurd h h4
    · rw [(sign_check h1 h2).1] at h; exact absurd h h2
  · rw [(sign_keys h1).1] at h; exact absurd h h1
theorem sign_empty {l : List Ky} {c : Cl} {t : Int} (h : signE l c t ≠ 0) : signV l c t = ⟨#[]⟩ := by rw [signV, if_neg h]; rfl
theorem signed_is {k : Ky} {text : ByteArray} (h : wordS k.id = true) : TokIs (signedS k text) k.id text (sgnS k.sec (headS k.id text)) := ⟨h, sgnS_hex _ _, rfl⟩
theorem sign_differ {l : List Ky} {c d : Cl} {t : Int} (hc : signE l c t = 0) (hd : signE l d t = 0) : (signV l c t = signV l d t) ↔ c = d := by
  obtain ⟨k, _, _, k3, k4, k5⟩ := sign_zero hc
  obtain ⟨k', _, _, k3', k4', k5'⟩ := sign_zero hd
  obtain rfl : k = k' := by rw [k3] at k3'; injection k3'
  have hw := (sigO_key k3).2.2.1
  constructor
  · intro h
    rw [k5, k5'] at h
    have h1 := signed_is (text := encV c) hw
    have h2 := signed_is (text := encV d) hw
    rw [h] at h1
    obtain ⟨_, e, _⟩ := h1.inj h2
    have i1 := isDec_of (c := c) k4 rfl
    have i2 := isDec_of (c := d) k4' rfl
    rw [e] at i1
    exact isDec_inj i1 i2
  · rintro rfl; rfl
theorem sign_size {l : List Ky} {c : Cl} {t : Int} : (signV l c t).size ≤ 20000 := by
  by_cases h : signE l c t = 0
  · obtain ⟨k, _, _, k3, k4, k5⟩ := sign_zero h
    have h1 := (sigO_key k3).2.2.2.1
    have h2 := enc_len k4
    rw [k5, signedS, ByteArray.size_append, ByteArray.size_append, sgnS_size]
    have h3 : dotS.size = 1 := rfl
    have h4 := headS_size k.id (encV c)
    omega
  · rw [sign_empty h]; decide
/-- A token that was signed, to a receiver. -/
theorem sign_returns {l : List Ky} {c : Cl} {x : Ex} (h : signE l c x.now = 0) : ∃ k : Ky, TokIs (signV l c x.now) k.id (encV c) (sgnS k.sec (headS k.id (encV c))) ∧ verE l (signV l c x.now) x = (if accE l k.id x.now x.skew = 0 then allowE c x else accE l k.id x.now x.skew) ∧ (verE l (signV l c x.now) x = 0 → verC l (signV l c x.now) x = c) := by
  obtain ⟨k, k1, k2, k3, k4, k5⟩ := sign_zero h
  obtain ⟨_, hm, hw, _, _⟩ := sigO_key k3
  have hf := findK_mem k1 hm
  have hi := signed_is (text := encV c) hw
  have hd := isDec_of (c := c) k4 rfl
  refine ⟨k, by rw [k5]; exact hi, ?_, ?_⟩
  · rw [k5, (accK_some hf x.now x.skew).1]
    by_cases h0 : windowE k.af k.au x.now x.skew = 0
    · rw [if_pos h0]; exact ver_all hi hf h0 rfl hd
    · rw [if_neg h0]; exact ver_win hi hf h0
  · rw [k5]
    intro h0
    exact (ver_get hi hf hd h0).2
theorem verC_small (l : List Ky) (s : ByteArray) (x : Ex) : SmallL (verC l s x) := by
  by_cases h : verE l s x = 0
  · obtain ⟨_, _, _, _, c, _, _, _, _, hd, _, _, hc⟩ := ver_zero h
    rw [hc]; exact SmallL.of (check_small hd.1)
  · rw [(ver_err h).2]; exact ⟨by decide, by decide, by decide⟩
end Go.Proofs.YtiiioefjdebggaaGreatDoor

/- identityref24.Accepting. -/
namespace Go.Proofs.YtiiioefjdebggaaGreatDoor
open Go.RowKit

set_option maxHeartbeats 4000000 in
set_option maxRecDepth 100000 in
theorem raccepting_any (l : List Ky) (A : Option Addr) (c : Nat) (id : ByteArray) (t s : Int) (w : World) (hS : KysAt w A l) (hl : l.length ≤ 9223372036854775807) :
    Calls Tryz.prog 50 #[.slice A l.length c, .string id, .int .i64 t, .int .i64 s] w fun e w' => e = .returned (.tuple #[kyV (accV l id t s), .int .i64 (accE l id t s)]) ∧ Below w.heap.size w w' := by
  have R1 : Hid (KyBox (w.alloc (kyO ky0)) w.heap.size ky0) := Lib.hid (KyBox.new w ky0)
  have B1 : Hid (Below w.heap.size w (w.alloc (kyO ky0))) := Lib.hid ((Below.refl _ _).alloc (Nat.le_refl _) _)
  have HS := Lib.hid hS
  clear hS
  go_enter Tryz.func50, Tryz.ntmps50
  go_upto_region 1 with (first | (refine alloc_ky rfl _ rfl rfl ?_) | fail)
  go_wp2_with fail
  go_loopw [10, 11] (fun i _ wr => ∃ k : Nat, k ≤ l.length ∧ i = .int .i64 k ∧ Hid (∀ j, (h : j < l.length) → j < k → l[j].id ≠ id) ∧ Hid (Below w.heap.size w wr) ∧ Hid (KyBox wr w.heap.size ky0)) (fun i _ _ => l.length - (intOf i).toNat)
  case atStart => exact ⟨0, Nat.zero_le _, rfl, Lib.hid (fun j _ h => absurd h (Nat.not_lt_zero _)), B1, R1⟩
  case round =>
    obtain ⟨k, hk, rfl, HN, BR, RR⟩ := hrel
    clear B1 R1
    by_cases hlt : k < l.length
    · obtain ⟨b, o, rfl, hat⟩ := (HS.out.below BR.out).at k hlt
      have HAT := Lib.hid hat
      have HF := Lib.hid (fun h : l[k].id = id => accK_some (findK_some hlt h (fun j hj => HN.out j (by omega) hj)) t s)
      have HN2 := Lib.hid (fun (h : l[k].id ≠ id) => (show ∀ j, (hj : j < l.length) → j < k + 1 → l[j].id ≠ id from fun j hj hjk => by
        rcases Nat.lt_succ_iff_lt_or_eq.1 hjk with h1 | rfl
        · exact HN.out j hj h1
        · exact h))
      obtain ⟨y, HY⟩ : ∃ x, Hid (l[k] = x) := ⟨_, Lib.hid rfl⟩
      rw [HY.out] at HAT HF HN2
      have c0 := HAT.out.c0
      have k0 : (0 : Int) ≤ (k : Int) := by omega
      have k1 : (k : Int) < (l.length : Int) := by omega
      clear hat
      by_cases he : y.id = id
      · have HV := Lib.hid (HF.out he)
        have t1 : (y.id.toList == id.toList) = true := by rw [he]; simp
        have t2 : y.id.toList = id.toList := by rw [he]
        obtain ⟨E, HE⟩ : ∃ E, Hid (windowE y.af y.au t s = E) := ⟨_, Lib.hid rfl⟩
        rw [HE.out] at HV
        have c4 := HAT.out.c4
        have c5 := HAT.out.c5
        clear he HF HN2
        go_wp2_with fail
        refine (rccheck_any y.af y.au t s _).mono ?_
        rintro e w3 ⟨rfl, hb3⟩
        rw [HE.out]
        have B3 := Lib.hid (bthen BR.out hb3)
        have R3 := Lib.hid (RR.out.below hb3)
        have HA3 := Lib.hid (HAT.out.below hb3)
        clear hb3 c0 c4 c5
        by_cases h0 : E = 0
        · have hEb : (E == 0) = true := by rw [h0]; rfl
          have HV2 : Hid (accV l id t s = y) := Lib.hid (by rw [HV.out.2, if_pos h0])
          subst h0
          go_wp2_with (first
            | (refine load_kyAt rfl _ rfl _ rfl b (o + k * 6) rfl y HA3 ?_)
            | (refine store_ky rfl _ rfl _ _ rfl w.heap.size rfl y rfl ky0 R3 ?_)
            | fail)
          refine bodyPost_ret (v := .tuple #[kyV y, .int .i64 0]) (res_ky Tryz.results50 _ _ w.heap.size y _ rfl R3.out.set rfl) rfl ⟨by rw [HV.out.1, HV2.out], below_setRow B3.out (Nat.le_refl _) _⟩
        · have hEb : (E == 0) = false := by simpa using h0
          have HV2 : Hid (accV l id t s = ky0) := Lib.hid (by rw [HV.out.2, if_neg h0])
          clear h0
          go_wp2_with (first
            | (refine build_ky rfl _ rfl rfl ?_)
            | (refine store_ky rfl _ rfl _ _ rfl w.heap.size rfl ky0 rfl ky0 R3 ?_)
            | fail)
          refine bodyPost_ret (v := .tuple #[kyV ky0, .int .i64 E]) (res_ky Tryz.results50 _ _ w.heap.size ky0 _ rfl R3.out.set rfl) rfl ⟨by rw [HV.out.1, HV2.out], below_setRow B3.out (Nat.le_refl _) _⟩
      · have HNN := Lib.hid (HN2.out he)
        have t1 : (y.id.toList == id.toList) = false := str_ne he
        have t2 : ¬ y.id.toList = id.toList := fun e => he (toList_inj e)
        clear he HF HN2
        go_wp2_with fail
        go_roundw
        case rel => exact ⟨k + 1, hlt, by go_num, HNN, BR, RR⟩
        case measure => simp [intOf]; omega
    · have HV := Lib.hid (accK_none (findK_none (id := id) (fun i hi => HN.out i hi (by omega))) t s)
      go_wp2_with (first
        | (refine build_ky rfl _ rfl rfl ?_)
        | (refine store_ky rfl _ rfl _ _ rfl w.heap.size rfl ky0 rfl ky0 RR ?_)
        | fail)
      refine bodyPost_ret (v := .tuple #[kyV ky0, .int .i64 26]) (res_ky Tryz.results50 _ _ w.heap.size ky0 _ rfl RR.out.set rfl) rfl ⟨by rw [HV.out.1, HV.out.2], below_setRow BR.out (Nat.le_refl _) _⟩
end Go.Proofs.YtiiioefjdebggaaGreatDoor

/- The reference's split. -/
namespace Go.Proofs.YtiiioefjdebggaaGreatDoor
open Go.RowKit

theorem nl_split {l : List UInt8} {j : Nat} (hj : j < l.length) (hc : l[j] = 10) (hn : (10 : UInt8) ∉ l.take j) : l.takeWhile (· ≠ 10) = l.take j ∧ (l.dropWhile (· ≠ 10)).tail = l.drop (j + 1) ∧ (10 : UInt8) ∈ l := by
  have e : l = l.take j ++ 10 :: l.drop (j + 1) := by
    rw [← hc, List.getElem_cons_drop, List.take_append_drop]
  obtain ⟨t1, t2⟩ := take_nl (l := l.drop (j + 1)) hn
  rw [← e] at t1 t2
  exact ⟨t1, t2, by rw [← hc]; exact List.getElem_mem hj⟩
theorem spl_no {k : ByteArray} {ks : List ByteArray} {t : List UInt8} (h : (10 : UInt8) ∉ t) : splR (k :: ks) t = none := by
  rw [splR, if_neg (fun hh => h hh.1)]
theorem spl_bad {k : ByteArray} {ks : List ByteArray} {l : List UInt8} {j : Nat} (hj : j < l.length) (hc : l[j] = 10) (hn : (10 : UInt8) ∉ l.take j) (hp : ¬ (keyE k).data.toList <+: l.take j) : splR (k :: ks) l = none := by
  obtain ⟨t1, t2, t3⟩ := nl_split hj hc hn
  rw [splR, t1, if_neg]
  rintro ⟨_, h⟩
  rw [List.isPrefixOf_iff_prefix, ← keyE_list] at h
  exact hp h
theorem spl_good {k : ByteArray} {ks : List ByteArray} {l : List UInt8} {j : Nat} (hj : j < l.length) (hc : l[j] = 10) (hn : (10 : UInt8) ∉ l.take j) (hp : (keyE k).data.toList <+: l.take j) : splR (k :: ks) l = (splR ks (l.drop (j + 1))).map (bsOf ((l.take j).drop (keyE k).size) :: ·) := by
  obtain ⟨t1, t2, t3⟩ := nl_split hj hc hn
  have e : (keyE k).size = k.size + 1 := by rw [keyE, ByteArray.size_append]; rfl
  rw [splR, t1, t2, e, if_pos]
  refine ⟨t3, ?_⟩
  rw [List.isPrefixOf_iff_prefix, ← keyE_list]; exact hp
/-- The reading so far: the values vs, the rest t. -/
def SplAt (S : ByteArray) (k : Nat) (vs : List ByteArray) (t : ByteArray) : Prop := splR keysS S.data.toList = (splR (keysS.drop k) t.data.toList).map (vs ++ ·)
theorem SplAt.zero (S : ByteArray) : SplAt S 0 [] S := by
  rw [SplAt]
  cases h : splR (keysS.drop 0) S.data.toList with
  | none => exact h
  | some x => exact h
theorem drop_keys {k : Nat} (hk : k < 16) : keysS.drop k = keysS[k]'hk :: keysS.drop (k + 1) := List.drop_eq_getElem_cons hk
theorem SplAt.no {S t : ByteArray} {k : Nat} {vs : List ByteArray} (h : SplAt S k vs t) (hk : k < 16) (hn : (10 : UInt8) ∉ t.data.toList) : splR keysS S.data.toList = none := by
  rw [h, drop_keys hk, spl_no hn]; rfl
theorem SplAt.bad {S t : ByteArray} {k j : Nat} {vs : List ByteArray} (h : SplAt S k vs t) (hk : k < 16) (hj : j < t.size) (hc : t[j] = 10) (hn : (10 : UInt8) ∉ t.data.toList.take j) (hp : ¬ (keyE (keysS[k]'hk)).data.toList <+: t.data.toList.take j) : splR keysS S.data.toList = none := by
  rw [h, drop_keys hk, spl_bad (j := j) (by simpa using hj) (by simpa [ByteArray.getElem_eq_getElem_data] using hc) hn hp]; rfl
theorem SplAt.next {S t : ByteArray} {k j : Nat} {vs : List ByteArray} (h : SplAt S k vs t) (hk : k < 16) (hj : j < t.size) (hc : t[j] = 10) (hn : (10 : UInt8) ∉ t.data.toList.take j) (hp : (keyE (keysS[k]'hk)).data.toList <+: t.data.toList.take j) :
    SplAt S (k + 1) (vs ++ [t.extract (keyE (keysS[k]'hk)).size j]) (t.extract (j + 1) t.size) := by
  have e1 : t.extract (keyE (keysS[k]'hk)).size j = bsOf ((t.data.toList.take j).drop (keyE (keysS[k]'hk)).size) := by
    rw [← bsOf_list (t.extract _ _), extract_list]
  have e2 : (t.extract (j + 1) t.size).data.toList = t.data.toList.drop (j + 1) := by
    rw [extract_list, List.take_of_length_le (by simp)]
  rw [SplAt, h, drop_keys hk, spl_good (j := j) (by simpa using hj) (by simpa [ByteArray.getElem_eq_getElem_data] using hc) hn hp, e1, e2, Option.map_map]
  congr 1
  funext x
  simp
theorem SplAt.done {S t : ByteArray} {vs : List ByteArray} (h : SplAt S 16 vs t) : splR keysS S.data.toList = if t.size = 0 then some vs else none := by
  have e : keysS.drop 16 = [] := rfl
  rw [h, e, splR]
  by_cases h0 : t.size = 0
  · rw [if_pos h0, if_pos (List.eq_nil_of_length_eq_zero (by simpa using h0))]; simp
  · rw [if_neg h0, if_neg (fun hh => h0 (by have := congrArg List.length hh; simpa using this))]; rfl
theorem prefix_take {p t : ByteArray} {j : Nat} (hj : p.size ≤ j) : p.data.toList <+: t.data.toList.take j ↔ t.extract 0 p.size = p := by
  have hl : p.data.toList.length = p.size := by simp
  rw [List.prefix_iff_eq_take, hl, List.take_take, Nat.min_eq_left hj]
  constructor
  · intro h
    apply ByteArray.ext; apply Array.toList_inj.1
    rw [extract_list, List.drop_zero]; exact h.symm
  · intro h
    have := congrArg (fun b : ByteArray => b.data.toList) h
    simp only [extract_list, List.drop_zero] at this
    exact this.symm
theorem prefix_long {p t : ByteArray} {j : Nat} (hj : j < p.size) : ¬ p.data.toList <+: t.data.toList.take j := by
  intro h
  have := h.length_le
  have hl : p.data.toList.length = p.size := by simp
  rw [hl, List.length_take] at this
  omega
def SplRet (S : ByteArray) (w' : World) (e : Ending) : Prop :=
  (∃ vs A cap, e = .returned (.tuple #[.slice A vs.length cap, .bool true]) ∧ Strs w' A vs ∧ splR keysS S.data.toList = some vs) ∨ (∃ v, e = .returned (.tuple #[v, .bool false]) ∧ splR keysS S.data.toList = none)
theorem nl_next {t : ByteArray} {j : Nat} (h : j < t.size) (hn : (10 : UInt8) ∉ t.data.toList.take j) (hc : t[j] ≠ 10) : (10 : UInt8) ∉ t.data.toList.take (j + 1) := by
  have hl : j < t.data.toList.length := by simpa using h
  rw [List.take_succ_eq_append_getElem hl]
  intro hm
  rcases List.mem_append.1 hm with hm | hm
  · exact hn hm
  · simp at hm
    exact hc (by simpa [ByteArray.getElem_eq_getElem_data] using hm.symm)
theorem nl_all {t : ByteArray} {j : Nat} (h : ¬ j < t.size) (hn : (10 : UInt8) ∉ t.data.toList.take j) : (10 : UInt8) ∉ t.data.toList := by
  rwa [List.take_of_length_le (by simpa using h)] at hn
theorem empty_toList {s : ByteArray} (h : s.size = 0) : s.toList = [] := by
  rw [Lib.toList_data]; exact List.eq_nil_of_length_eq_zero (by simpa using h)
theorem full_toList {s : ByteArray} (h : ¬ s.size = 0) : s.toList.isEmpty = false := by
  rw [Lib.toList_data]
  cases hd : s.data.toList with
  | nil => exact absurd (by simpa using congrArg List.length hd) h
  | cons a l => rfl
set_option maxHeartbeats 8000000 in
set_option maxRecDepth 100000 in
theorem rsplit25_any (s : ByteArray) (w : World) (hs : s.size ≤ 1000000) :
    Calls Tryz.prog 96 #[.string s] w fun e w' => SplRet s w' e ∧ Below w.heap.size w w' := by
  obtain ⟨i0, hi, hz0, hz1, hz2⟩ := info_parts Tryz.info_s
  go_enter Tryz.func96, Tryz.ntmps96
  go_wp2_with fail
  refine (rkeys_any _).mono ?_
  rintro e w1 ⟨rfl, hs1, hb1⟩
  have S1 := Lib.hid hs1
  have B1 := Lib.hid hb1
  have hz1' : w.heap.size < w1.heap.size := by
    obtain ⟨b, o, e, hc⟩ := hs1 0 (by decide)
    injection e with e
    injection e with e1 e2
    subst e1
    exact World.block_lt_of_cell? w1 _ hc
  clear hs1 hb1
  go_wp2_with fail
  go_loopw [0, 4, 6] (fun r v i wr => ∃ (k : Nat) (t : ByteArray) (vs : List ByteArray), k ≤ 16 ∧ i = .int .i64 k ∧ r = .string t ∧ t.size ≤ 1000000 ∧ vs.length = k ∧ Hid (SplAt s k vs t) ∧ Hid (wr.ownsRow (w.heap.size + 1) 9 1 v k (strVs vs)) ∧ Hid (Below w.heap.size w wr) ∧ Hid (Strs wr (some ⟨w.heap.size, 0, none⟩) keysS) ∧ w.heap.size < wr.heap.size) (fun _ _ i _ => 16 - (intOf i).toNat)
  case atStart => exact ⟨0, s, [], Nat.zero_le _, rfl, rfl, hs, rfl, Lib.hid (SplAt.zero s), Lib.hid (World.ownsRow_nil _ _ _ _), B1, S1, hz1'⟩
  case round =>
    obtain ⟨k, t, vs, hk, rfl, rfl, ht, hvs, HSP, OR, BR, SR, hzr⟩ := hrel
    clear S1 B1
    have HVS := Lib.hid hvs
    clear hvs
    by_cases hlt : k < 16
    · go_wp2_with fail
      go_loop [7] (fun n => ∃ j : Nat, j ≤ t.size ∧ n = .int .i64 j ∧ Hid ((10 : UInt8) ∉ t.data.toList.take j)) (fun n => t.size - (intOf n).toNat)
      case atStart => exact ⟨0, Nat.zero_le _, rfl, Lib.hid (by simp)⟩
      case round =>
        obtain ⟨j, hj, rfl, HNL⟩ := hrel
        by_cases hjl : j < t.size
        · by_cases hc : t[j] = 10
          · obtain ⟨b, o, hbe, hc1⟩ := SR.out k hlt
            injection hbe with hbe
            injection hbe with hb1 hb2
            subst hb1; subst hb2
            rw [Nat.zero_add] at hc1
            have hks := keys_len _ (List.getElem_mem (l := keysS) hlt)
            have HBAD := Lib.hid (fun h => HSP.out.bad hlt hjl hc HNL.out h)
            have HNEXT := Lib.hid (fun h => HSP.out.next hlt hjl hc HNL.out h)
            obtain ⟨x, HX⟩ : ∃ x, Hid (keysS[k]'hlt = x) := ⟨_, Lib.hid rfl⟩
            rw [HX.out] at hc1 hks HBAD HNEXT
            have hcn : ((t[j].toNat : Int) != 10) = false := by rw [hc]; rfl
            have hne : ((j : Int) == (t.size : Int)) = false := by rw [beq_eq_false_iff_ne]; omega
            have f1 : (0 : Int) ≤ (k : Int) := by omega
            have f2 : (k : Int) < 16 := by omega
            clear hc
            have hxe : (x ++ ⟨#[61]⟩ : ByteArray).size = x.size + 1 := by rw [ByteArray.size_append]; rfl
            by_cases hjp : j < x.size + 1
            · have HG := Lib.hid (HBAD.out (prefix_long (by rw [keyE]; omega)))
              clear hxe
              go_wp2_with fail
              go_ret2
              exact ⟨.inr ⟨_, rfl, HG.out⟩, BR.out⟩
            · have hjp2 : x.size + 1 ≤ j := by omega
              by_cases he : t.extract 0 (x.size + 1) = x ++ ⟨#[61]⟩
              · have HSN : Hid (SplAt s (k + 1) (vs ++ [t.extract (x.size + 1) j]) (t.extract (j + 1) t.size)) := Lib.hid (by
                  have h := HNEXT.out ((prefix_take (by rw [keyE]; omega)).2 (by rw [keyE, hxe]; exact he))
                  rwa [keyE, hxe] at h)
                have hb1 : ((t.extract 0 (x.size + 1)).toList == (x ++ ⟨#[61]⟩ : ByteArray).toList) = true := by rw [he]; simp
                have hb2 : ((t.extract 0 (x.size + 1)).toList != (x ++ ⟨#[61]⟩ : ByteArray).toList) = false := by rw [bne, hb1]; rfl
                have HRZ : Hid ((t.extract (j + 1) t.size).size ≤ 1000000) := Lib.hid (by rw [ByteArray.size_extract]; omega)
                have HVL : Hid ((vs ++ [t.extract (x.size + 1) j]).length = k + 1) := Lib.hid (by rw [List.length_append, HVS.out]; rfl)
                clear he hxe
                have g1 : (0 : Int) ≤ (x.size : Int) + 1 := by omega
                have g2 : (x.size : Int) + 1 ≤ (j : Int) := by omega
                have g3 : (j : Int) + 1 ≤ (t.size : Int) := by omega
                go_wp2_with (first
                  | (at_builtin; refine wpList_append_own _ rfl _ _ 23 rfl (w.heap.size + 1) 9 i0 (.string ByteArray.empty) 1 16 Tryz.underlying23 hi hz0 hz1 hz2 rfl (by decide) _ _ _ rfl (OR.out.alloc _) ⟨wr.heap.size, 0, none⟩ 1 1 [strV (t.extract (x.size + 1) j)] rfl rfl (cell_one_new _ _ _) (by intro u hu; simp at hu; subst hu; rfl) (by unfold maxLen; omega) (by omega) (by simp; omega) ?_; intro v' w4 hown4 hg4 _)
                  | fail)
                have BS4 : Hid (Below (w.heap.size + 1) wr w4) := Lib.hid (((Below.refl _ wr).alloc (by omega) _).grown hg4 (by simp; omega) (fun q hq => (OR.out.lt q hq).1))
                have O4 : Hid (w4.ownsRow (w.heap.size + 1) 9 1 v' (k + 1) (strVs (vs ++ [t.extract (x.size + 1) j]))) := Lib.hid (by show World.ownsRow _ _ _ _ _ _ _; rw [← strVs_snoc]; exact hown4)
                have B4 := Lib.hid (BR.out.trans (BS4.out.mono (by omega)))
                have S4 : Hid (Strs w4 (some ⟨w.heap.size, 0, none⟩) keysS) := Lib.hid (fun i hi => by
                  obtain ⟨b, o, hbe, hc1⟩ := SR.out i hi
                  refine ⟨b, o, hbe, ?_⟩
                  injection hbe with hbe
                  injection hbe with hb1 hb2
                  subst hb1; subst hb2
                  exact (BS4.out.cell (p := ⟨w.heap.size, 0 + i, none⟩) (by show w.heap.size < _; omega)).trans hc1)
                have hz4 : w.heap.size < w4.heap.size := by have := BS4.out.size; omega
                clear hown4 hg4 hb1 hb2 g1 g2
                go_wp2_with fail
                go_roundw
                case rel => exact ⟨k + 1, _, _, hlt, by go_num, rfl, HRZ.out, HVL.out, HSN, O4, B4, S4, hz4⟩
                case measure => simp [intOf]; omega
              · have HG := Lib.hid (HBAD.out (fun h => he (by have h2 := (prefix_take (by rw [keyE]; omega)).1 h; rwa [keyE, hxe] at h2)))
                have hb1 := str_ne he
                have hb2 : ((t.extract 0 (x.size + 1)).toList != (x ++ ⟨#[61]⟩ : ByteArray).toList) = true := by rw [bne, hb1]; rfl
                clear he hxe
                go_wp2_with fail
                go_ret2
                exact ⟨.inr ⟨_, rfl, HG.out⟩, BR.out⟩
          · have hcn : ((t[j].toNat : Int) != 10) = true := by
              rw [bne_iff_ne]
              intro h
              exact hc (UInt8.toNat_inj.1 (by have h2 : ((t[j].toNat : Nat) : Int) = ((10 : Nat) : Int) := h; exact Int.ofNat.inj h2))
            have HN2 := Lib.hid (nl_next hjl HNL.out hc)
            clear hc
            go_wp2_with fail
            go_round
            case rel => exact ⟨j + 1, hjl, by go_num, HN2⟩
            case measure => simp [intOf]; omega
        · have HG := Lib.hid (HSP.out.no hlt (nl_all hjl HNL.out))
          obtain ⟨b, o, hbe, hc1⟩ := SR.out k hlt
          injection hbe with hbe
          injection hbe with hb1 hb2
          subst hb1; subst hb2
          rw [Nat.zero_add] at hc1
          have hks := keys_len _ (List.getElem_mem (l := keysS) hlt)
          obtain ⟨x, HX⟩ : ∃ x, Hid (keysS[k]'hlt = x) := ⟨_, Lib.hid rfl⟩
          rw [HX.out] at hc1 hks
          have f1 : (0 : Int) ≤ (k : Int) := by omega
          have f2 : (k : Int) < 16 := by omega
          obtain rfl : j = t.size := by omega
          go_wp2_with fail
          go_ret2
          exact ⟨.inr ⟨_, rfl, HG.out⟩, BR.out⟩
    · obtain rfl : k = 16 := by omega
      have HDN := Lib.hid (HSP.out.done)
      obtain ⟨A, cc, hv, hS2, hcc⟩ := own_strs (l := vs) OR.out HVS.out (fun j hj => strVs_at _ j hj)
      have HR := Lib.hid hS2
      subst hv
      clear hS2 hcc
      by_cases h0 : t.size = 0
      · have HG := Lib.hid (HDN.out.trans (if_pos h0))
        have e0 := empty_toList h0
        clear h0
        go_wp2_with fail
        go_ret2
        exact ⟨.inl ⟨vs, A, cc, rfl, HR.out, HG.out⟩, BR.out⟩
      · have HG := Lib.hid (HDN.out.trans (if_neg h0))
        have e0 := full_toList h0
        have e1 : (t.toList == []) = false := by
          cases hl : t.toList with
          | nil => rw [hl] at e0; cases e0
          | cons a l => rfl
        clear h0
        go_wp2_with fail
        go_ret2
        exact ⟨.inr ⟨_, rfl, HG.out⟩, BR.out⟩
end Go.Proofs.YtiiioefjdebggaaGreatDoor

/- identityref02.Split computes splitS, splitErr. -/
namespace Go.Proofs.YtiiioefjdebggaaGreatDoor
open Go.RowKit

set_option maxHeartbeats 4000000 in
set_option maxRecDepth 100000 in
theorem rsplit_any (s : ByteArray) (w : World) (hs : s.size ≤ 1000000) :
    Calls Tryz.prog 98 #[.string s] w fun e w' => RetStrs2 w.heap.size w' e (splitS s) (splitErr s) ∧ Below w.heap.size w w' := by
  obtain ⟨i0, hi, hz0, hz1, hz2⟩ := info_parts Tryz.info_s
  go_enter Tryz.func98, Tryz.ntmps98
  by_cases h1 : s = ⟨#[45]⟩
  · subst h1
    have hG := Lib.hid (split_some splitO_dash)
    go_wp2_with fail
    go_ret2
    exact ⟨⟨none, 0, by rw [hG.out.1, hG.out.2]; rfl, by rw [hG.out.1]; exact Strs.nil_ _ _, (fun p h => by cases h), by rw [hG.out.1]; exact Nat.le_refl _⟩, Below.refl _ _⟩
  · have hd1 := dash_ne' h1
    by_cases h2 : s = ⟨#[37, 50, 68]⟩
    · subst h2
      have hG := Lib.hid (split_some splitO_2d)
      clear hd1 h1
      go_wp2_with fail
      go_ret2
      refine ⟨⟨some ⟨w.heap.size, 0, none⟩, 1, by rw [hG.out.1, hG.out.2]; rfl, ?_, (fun p h => by cases h; exact Nat.le_refl _), by rw [hG.out.1]; exact Nat.le_refl _⟩, (Below.refl _ _).alloc (Nat.le_refl _) _⟩
      rw [hG.out.1]
      intro i hi
      have hi0 : i = 0 := by simpa using hi
      subst hi0
      exact ⟨w.heap.size, 0, rfl, by simp [go_sem]⟩
    · have hd2 : (s.toList == [37, 50, 68]) = false := by
        have := str_ne h2
        rwa [show (⟨#[37, 50, 68]⟩ : ByteArray).toList = [37, 50, 68] by rw [Lib.toList_data]] at this
      have HO := Lib.hid (splitO_else h1 h2)
      clear h1 h2
      have hle := cutsS_le s 124
      have HZ := Lib.hid (cuts_size (s := s) (c := 124))
      go_wp2_with fail
      refine (rcut_any s 124 w (by omega)).mono ?_
      rintro e w1 ⟨⟨A, cap, rfl, hS1, hA1⟩, hb1⟩
      obtain ⟨N, hN⟩ : ∃ N, (cutsS s 124).length = N := ⟨_, rfl⟩
      rw [hN] at hle
      have HN := Lib.hid hN
      rw [hN]
      clear hN
      go_wp2_with fail
      go_loopw [5, 6, 7, 8] (fun v j _ _ wr => ∃ (k : Nat) (U : List ByteArray), k ≤ N ∧ j = .int .i64 k ∧ U.length = k ∧ wr.ownsRow w1.heap.size 9 1 v k (strVs U) ∧ Hid ((unAllO ((cutsS s 124).drop k)).map (U ++ ·) = splitO s) ∧ Below w1.heap.size w1 wr) (fun _ i _ _ _ => N - (intOf i).toNat)
      case atStart => exact ⟨0, [], Nat.zero_le _, rfl, rfl, World.ownsRow_nil _ _ _ _, Lib.hid (by rw [HO.out]; simp), Below.refl _ _⟩
      case round =>
        obtain ⟨k, U, hk, rfl, hU, hown, HP, hbr⟩ := hrel
        by_cases hlt : k < N
        · have hlt2 : k < (cutsS s 124).length := by rw [HN.out]; exact hlt
          obtain ⟨b, o, rfl, hcell⟩ := (hS1.below hbr) k hlt2
          have hsz := HZ.out _ (List.getElem_mem hlt2)
          have HA : Hid (unescO (cutsS s 124)[k] = none → splitO s = none) := Lib.hid (fun h => all_none hlt2 h HP.out)
          have HB : Hid (∀ t, unescO (cutsS s 124)[k] = some t → (unAllO ((cutsS s 124).drop (k + 1))).map ((U ++ [t]) ++ ·) = splitO s) := Lib.hid (fun t h => all_step hlt2 h HP.out)
          have HU := Lib.hid hU
          have HL2 := Lib.hid hlt2
          generalize (cutsS s 124)[k] = x at hcell hsz HA HB
          have hun := runesc_any x wr (by omega)
          rcases unesc_case x with ⟨hx1, hx2, hx3⟩ | ⟨t, hx1, hx2, hx3⟩
          · rw [hx2, hx3] at hun
            have hG := Lib.hid (split_none (HA.out hx1))
            clear hx1 hx2 hx3 hU hlt2
            go_wp2_with fail
            refine hun.mono ?_
            rintro e w2 ⟨rfl, hb2⟩
            go_wp2_with fail
            go_ret2
            exact ⟨⟨none, 0, by rw [hG.out.1, hG.out.2]; rfl, by rw [hG.out.1]; exact Strs.nil_ _ _, (fun p h => by cases h), by rw [hG.out.1]; exact Nat.le_refl _⟩, bthen hb1 (bthen hbr hb2)⟩
          · rw [hx2, hx3] at hun
            have HP1 := Lib.hid (HB.out t hx1)
            clear hx1 hx2 hx3 hU hlt2
            go_wp2_with fail
            refine hun.mono ?_
            rintro e w2 ⟨rfl, hb2⟩
            have hown2 := own_below hown hb2
            have hbr2 := bthen hbr hb2
            go_wp2_with (at_builtin; refine wpList_append_own _ rfl _ _ 23 rfl w1.heap.size 9 i0 (.string ByteArray.empty) 1 16 Tryz.underlying23 hi hz0 hz1 hz2 rfl (by decide) _ _ _ rfl (hown2.alloc _) ⟨w2.heap.size, 0, none⟩ 1 1 [strV t] rfl rfl (cell_one_new _ _ _) (by intro u hu; simp at hu; subst hu; rfl) (by unfold maxLen; omega) (by omega) (by have := hbr2.size; simp; omega) ?_; intro v' w3 hown3 hg3 _)
            have HBw : Hid (Below w1.heap.size w1 w3) := Lib.hid ((hbr2.alloc hbr2.size _).grown hg3 (by have := hbr2.size; simp; omega) (fun q hq => (hown2.lt q hq).1))
            have HOw : Hid (w3.ownsRow w1.heap.size 9 1 v' (k + 1) (strVs (U ++ [t]))) := by
              show World.ownsRow _ _ _ _ _ _ _
              rw [← strVs_snoc]; exact hown3
            clear hown3 hg3
            go_wp2_with fail
            go_roundw
            case rel => exact ⟨k + 1, U ++ [t], hlt, by go_num, by rw [List.length_append, HU.out]; rfl, HOw.out, HP1, HBw.out⟩
            case measure => simp [intOf]; omega
        · have hG := Lib.hid (split_some (all_end (by rw [HN.out]; exact hlt) HP.out))
          go_wp2_with fail
          go_ret2
          refine ⟨?_, bthen hb1 hbr⟩
          rw [hG.out.1, hG.out.2]
          obtain ⟨A', c', e', q1, q2, q3⟩ := RetStrs2.own (c := 0) hown hU (strVs_at U)
          exact ⟨A', c', e', q1, (fun p hp => Nat.le_trans hb1.size (q2 p hp)), q3⟩
end Go.Proofs.YtiiioefjdebggaaGreatDoor

/- identityref02.ReadInt computes readIntP. -/
namespace Go.Proofs.YtiiioefjdebggaaGreatDoor
open Go.RowKit

theorem val_take {t : ByteArray} {k : Nat} (h : k < t.size) : valL (t.data.toList.take (k + 1)) = valL (t.data.toList.take k) * 10 + (t[k].toNat - 48) := by
  have hl : k < t.data.toList.length := by simpa using h
  rw [List.take_succ_eq_append_getElem hl, valL_eq, valF_append, ← valL_eq]; rfl
theorem val_all (l : List UInt8) (k : Nat) : valL (l.take k) ≤ valL l := by
  have e : valL l = valF (valL (l.take k)) (l.drop k) := by
    rw [valL_eq (l.take k), ← valF_append, List.take_append_drop]; rfl
  rw [e]; exact valF_ge _ _
theorem notIn {v : Nat} (h : 9223372036854775808 < v) : ¬ inInt (v : Int) ∧ ¬ inInt (-(v : Int)) := by unfold inInt; omega
theorem notIn2 : ¬ inInt ((9223372036854775808 : Nat) : Int) := by unfold inInt; omega
theorem yesIn {v : Nat} (h : v ≤ 9223372036854775808) : inInt (-(v : Int)) := by unfold inInt; omega
theorem yesIn2 {v : Nat} (h : v ≤ 9223372036854775808) (h2 : v ≠ 9223372036854775808) : inInt (v : Int) := by unfold inInt; omega

/-- The number of a form by what stands behind the sign. -/
theorem int_minus {s : ByteArray} (h : 0 < s.size) (h45 : s[0].toNat = 45) : intForm s.data.toList = decL (s.extract 1 s.size).data.toList false ∧ intVal s.data.toList = -(valL (s.extract 1 s.size).data.toList : Int) := by
  have e : s.data.toList = 45 :: (s.extract 1 s.size).data.toList := by
    rw [ext_back]
    have := head_of h
    rw [this]
    congr 1
    exact UInt8.toNat_inj.1 (by rw [h45]; rfl)
  rw [e, intForm, intVal, if_pos rfl, if_pos rfl]
  exact ⟨rfl, rfl⟩
theorem int_plus {s : ByteArray} (h : 0 < s.size) (h45 : s[0].toNat ≠ 45) : intForm s.data.toList = decL s.data.toList true ∧ intVal s.data.toList = (valL s.data.toList : Int) := by
  have e := head_of h
  have hne : ¬ s[0] = 45 := fun he => h45 (by rw [he]; rfl)
  rw [e, intForm, intVal, if_neg hne, if_neg hne]
  exact ⟨rfl, rfl⟩

set_option maxHeartbeats 4000000 in
set_option maxRecDepth 100000 in
theorem rreadint_any (s : ByteArray) (w : World) (hs : s.size ≤ 1000000) :
    Calls Tryz.prog 99 #[.string s] w fun e w' => e = .returned (.tuple #[.int .i64 (readIntP s).1, .int .i64 (readIntP s).2]) ∧ Below w.heap.size w w' := by
  by_cases h0 : s.size = 0
  · obtain rfl : s = ⟨#[]⟩ := by
      apply ByteArray.ext; apply Array.toList_inj.1
      exact List.eq_nil_of_length_eq_zero (by simpa using h0)
    have hG := Lib.hid (readInt_form (s := ⟨#[]⟩) rfl)
    have hdc : Hid (decL (⟨#[]⟩ : ByteArray).data.toList true = false) := Lib.hid rfl
    clear h0
    go_enter Tryz.func99, Tryz.ntmps99
    go_wp2_with fail
    refine (decimal_form ⟨#[]⟩ true _ (by decide)).mono ?_
    rintro e w1 ⟨rfl, rfl⟩
    rw [hdc.out]
    go_wp2_with fail
    go_ret2
    exact ⟨ret_pp hG.out, Below.refl _ _⟩
  · have hp : 0 < s.size := by omega
    clear h0
    have hcs : (∃ t : ByteArray, t = s.extract 1 s.size ∧ ((s[0].toNat : Int) == 45) = true ∧ intForm s.data.toList = decL t.data.toList false ∧ intVal s.data.toList = -(valL t.data.toList : Int)) ∨ (((s[0].toNat : Int) == 45) = false ∧ intForm s.data.toList = decL s.data.toList true ∧ intVal s.data.toList = (valL s.data.toList : Int)) := by
      by_cases h45 : s[0].toNat = 45
      · exact .inl ⟨_, rfl, by rw [h45]; rfl, int_minus hp h45⟩
      · exact .inr ⟨by rw [beq_eq_false_iff_ne]; omega, int_plus hp h45⟩
    rcases hcs with ⟨t, rfl, hb, hf, hv⟩ | ⟨hb, hf, hv⟩
    · have hF : Hid (decL (s.extract 1 s.size).data.toList false = false → readIntP s = (0, 4)) := Lib.hid (fun h => readInt_form (hf.trans h))
      have hO : Hid (decL (s.extract 1 s.size).data.toList false = true → ¬ inInt (-(valL (s.extract 1 s.size).data.toList : Int)) → readIntP s = (0, 27)) := Lib.hid (fun h hr => readInt_range (hf.trans h) (by rw [hv]; exact hr))
      have hK : Hid (decL (s.extract 1 s.size).data.toList false = true → inInt (-(valL (s.extract 1 s.size).data.toList : Int)) → readIntP s = (-(valL (s.extract 1 s.size).data.toList : Int), 0)) := Lib.hid (fun h hr => by rw [readInt_ok (hf.trans h) (by rw [hv]; exact hr), hv])
      clear hf hv
      generalize readIntP s = Z at *
      have hdf := fun wq => decimal_form (s.extract 1 s.size) false wq (by have : (s.extract 1 s.size).size ≤ s.size := (by simp [ByteArray.size_extract]); omega)
      cases hdc : decL ((s.extract 1 s.size)).data.toList false with
      | false =>
        have hG := Lib.hid (hF.out hdc)
        simp only [hdc] at hdf
        clear hdc
        go_enter Tryz.func99, Tryz.ntmps99
        go_wp2_with fail
        refine (Calls.mono (hdf _) ?_)
        rintro e w1 ⟨rfl, rfl⟩
        go_wp2_with fail
        go_ret2
        exact ⟨ret_pp hG.out, Below.refl _ _⟩
      | true =>
        have HDg := Lib.hid (decL_digits hdc).2
        have HO := Lib.hid (hO.out hdc)
        have HK := Lib.hid (hK.out hdc)
        simp only [hdc] at hdf
        clear hdc hF hO hK
        go_enter Tryz.func99, Tryz.ntmps99
        go_wp2_with fail
        refine (Calls.mono (hdf _) ?_)
        rintro e w1 ⟨rfl, rfl⟩
        go_wp2_with fail
        generalize ht : s.extract 1 s.size = t at *
        have htz : t.size ≤ s.size := by rw [← ht]; simp [ByteArray.size_extract]
        clear ht
        go_loop [7, 8, 9] (fun n i _ => ∃ k m : Nat, k ≤ t.size ∧ i = .int .i64 k ∧ n = .int .i64 (-(m : Int)) ∧ m ≤ 9223372036854775808 ∧ Hid (valL (t.data.toList.take k) = m)) (fun _ i _ => t.size - (intOf i).toNat)
        case atStart => exact ⟨0, 0, Nat.zero_le _, rfl, rfl, by omega, Lib.hid rfl⟩
        case round =>
          obtain ⟨k, m, hk, rfl, rfl, hm, HM⟩ := hrel
          by_cases hlt : k < t.size
          · have hdg := HDg.out _ (List.getElem_mem (show k < t.data.toList.length by simpa using hlt))
            have HV := Lib.hid (val_take hlt)
            have HW := Lib.hid (val_all t.data.toList (k + 1))
            obtain ⟨c, hc⟩ : ∃ c, t[k].toNat = c := ⟨_, rfl⟩
            have hc1 : 48 ≤ c ∧ c ≤ 57 := hc ▸ hdg
            have HC := Lib.hid hc
            obtain ⟨d, rfl⟩ : ∃ d, c = 48 + d := ⟨c - 48, by omega⟩
            have hd9 : d ≤ 9 := by omega
            clear hdg hc1
            have e1 : (48 : Int) + (d : Int) - 48 = (d : Int) := by omega
            obtain ⟨q, hq⟩ : ∃ q, (9223372036854775808 - d) / 10 = q := ⟨_, rfl⟩
            have HQ := Lib.hid hq
            have hq0 : q ≤ 922337203685477580 := by omega
            have e2 : (-9223372036854775808 + (d : Int)).tdiv 10 = -(q : Int) := by
              rw [show -9223372036854775808 + (d : Int) = -((9223372036854775808 - d : Nat) : Int) by omega, Int.neg_tdiv, Int.tdiv_eq_ediv_of_nonneg (by omega), ← hq]; rfl
            clear hq
            by_cases hlim : q < m
            · have hG := Lib.hid (HO.out (by
                have h1 := HV.out
                have h2 := HW.out
                have h3 := HQ.out
                rw [HM.out, HC.out] at h1
                have := notIn (v := valL t.data.toList) (by omega)
                exact this.2))
              go_wp2_with fail
              go_ret2
              exact ⟨ret_pp hG.out, Below.refl _ _⟩
            · have hm10 : 10 * m + d ≤ 9223372036854775808 := by have := HQ.out; omega
              have hl2 : m ≤ q := by omega
              have hl3 : ¬ -(m : Int) < -(q : Int) := by omega
              clear hlim
              have HM1 : Hid (valL (t.data.toList.take (k + 1)) = 10 * m + d) := Lib.hid (by
                have h1 := HV.out
                rw [HM.out, HC.out] at h1
                omega)
              go_wp2_with fail
              exact ⟨⟨k + 1, 10 * m + d, hlt, by go_num, congrArg (Value.int .i64) (by omega), hm10, HM1⟩, by simp [intOf]; omega⟩
          · have HM1 : Hid (valL t.data.toList = m) := Lib.hid (by have h := HM.out; rwa [List.take_of_length_le (by simp; have : t.size = t.data.size := rfl; omega)] at h)
            have hG := Lib.hid (HK.out (by rw [HM1.out]; exact yesIn hm))
            rw [HM1.out] at hG
            go_wp2_with fail
            go_ret2
            exact ⟨ret_pp hG.out, Below.refl _ _⟩
    · have hF : Hid (decL s.data.toList true = false → readIntP s = (0, 4)) := Lib.hid (fun h => readInt_form (hf.trans h))
      have hO : Hid (decL s.data.toList true = true → ¬ inInt (valL s.data.toList : Int) → readIntP s = (0, 27)) := Lib.hid (fun h hr => readInt_range (hf.trans h) (by rw [hv]; exact hr))
      have hK : Hid (decL s.data.toList true = true → inInt (valL s.data.toList : Int) → readIntP s = ((valL s.data.toList : Int), 0)) := Lib.hid (fun h hr => by rw [readInt_ok (hf.trans h) (by rw [hv]; exact hr), hv])
      clear hf hv
      generalize readIntP s = Z at *
      have hdf := fun wq => decimal_form s true wq (by skip; omega)
      cases hdc : decL (s).data.toList true with
      | false =>
        have hG := Lib.hid (hF.out hdc)
        simp only [hdc] at hdf
        clear hdc
        go_enter Tryz.func99, Tryz.ntmps99
        go_wp2_with fail
        refine (Calls.mono (hdf _) ?_)
        rintro e w1 ⟨rfl, rfl⟩
        go_wp2_with fail
        go_ret2
        exact ⟨ret_pp hG.out, Below.refl _ _⟩
      | true =>
        have HDg := Lib.hid (decL_digits hdc).2
        have HO := Lib.hid (hO.out hdc)
        have HK := Lib.hid (hK.out hdc)
        simp only [hdc] at hdf
        clear hdc hF hO hK
        go_enter Tryz.func99, Tryz.ntmps99
        go_wp2_with fail
        refine (Calls.mono (hdf _) ?_)
        rintro e w1 ⟨rfl, rfl⟩
        go_wp2_with fail
        go_loop [7, 8, 9] (fun n i _ => ∃ k m : Nat, k ≤ s.size ∧ i = .int .i64 k ∧ n = .int .i64 (-(m : Int)) ∧ m ≤ 9223372036854775808 ∧ Hid (valL (s.data.toList.take k) = m)) (fun _ i _ => s.size - (intOf i).toNat)
        case atStart => exact ⟨0, 0, Nat.zero_le _, rfl, rfl, by omega, Lib.hid rfl⟩
        case round =>
          obtain ⟨k, m, hk, rfl, rfl, hm, HM⟩ := hrel
          by_cases hlt : k < s.size
          · have hdg := HDg.out _ (List.getElem_mem (show k < s.data.toList.length by simpa using hlt))
            have HV := Lib.hid (val_take hlt)
            have HW := Lib.hid (val_all s.data.toList (k + 1))
            obtain ⟨c, hc⟩ : ∃ c, s[k].toNat = c := ⟨_, rfl⟩
            have hc1 : 48 ≤ c ∧ c ≤ 57 := hc ▸ hdg
            have HC := Lib.hid hc
            obtain ⟨d, rfl⟩ : ∃ d, c = 48 + d := ⟨c - 48, by omega⟩
            have hd9 : d ≤ 9 := by omega
            clear hdg hc1
            have e1 : (48 : Int) + (d : Int) - 48 = (d : Int) := by omega
            obtain ⟨q, hq⟩ : ∃ q, (9223372036854775808 - d) / 10 = q := ⟨_, rfl⟩
            have HQ := Lib.hid hq
            have hq0 : q ≤ 922337203685477580 := by omega
            have e2 : (-9223372036854775808 + (d : Int)).tdiv 10 = -(q : Int) := by
              rw [show -9223372036854775808 + (d : Int) = -((9223372036854775808 - d : Nat) : Int) by omega, Int.neg_tdiv, Int.tdiv_eq_ediv_of_nonneg (by omega), ← hq]; rfl
            clear hq
            by_cases hlim : q < m
            · have hG := Lib.hid (HO.out (by
                have h1 := HV.out
                have h2 := HW.out
                have h3 := HQ.out
                rw [HM.out, HC.out] at h1
                have := notIn (v := valL s.data.toList) (by omega)
                exact this.1))
              go_wp2_with fail
              go_ret2
              exact ⟨ret_pp hG.out, Below.refl _ _⟩
            · have hm10 : 10 * m + d ≤ 9223372036854775808 := by have := HQ.out; omega
              have hl2 : m ≤ q := by omega
              have hl3 : ¬ -(m : Int) < -(q : Int) := by omega
              clear hlim
              have HM1 : Hid (valL (s.data.toList.take (k + 1)) = 10 * m + d) := Lib.hid (by
                have h1 := HV.out
                rw [HM.out, HC.out] at h1
                omega)
              go_wp2_with fail
              exact ⟨⟨k + 1, 10 * m + d, hlt, by go_num, congrArg (Value.int .i64) (by omega), hm10, HM1⟩, by simp [intOf]; omega⟩
          · have HM1 : Hid (valL s.data.toList = m) := Lib.hid (by have h := HM.out; rwa [List.take_of_length_le (by simp; have : s.size = s.data.size := rfl; omega)] at h)
            by_cases hl : m = 9223372036854775808
            · have hG := Lib.hid (HO.out (by rw [HM1.out, hl]; exact notIn2))
              have hb2 : ((-(m : Int)) == -9223372036854775808) = true := by rw [beq_iff_eq]; omega
              clear hl
              go_wp2_with fail
              go_ret2
              exact ⟨ret_pp hG.out, Below.refl _ _⟩
            · have hG := Lib.hid (HK.out (by rw [HM1.out]; exact yesIn2 hm hl))
              rw [HM1.out] at hG
              have hb2 : ((-(m : Int)) == -9223372036854775808) = false := by rw [beq_eq_false_iff_ne]; omega
              have hm2 : m < 9223372036854775808 := by omega
              clear hl
              go_wp2_with fail
              go_ret2
              exact ⟨ret_pp hG.out, Below.refl _ _⟩
end Go.Proofs.YtiiioefjdebggaaGreatDoor

