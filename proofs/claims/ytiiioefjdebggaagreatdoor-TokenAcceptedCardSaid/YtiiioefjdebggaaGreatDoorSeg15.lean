/- Joined: TokSmp, TokFew, TokShort, TokEx0. -/
import Derived.Test.YtiiioefjdebggaaGreatDoorSeg13
import Derived.Test.YtiiioefjdebggaaGreatDoorSeg14
import Derived.Test.YtiiioefjdebggaaGreatDoorSeg8
import Derived.Test.YtiiioefjdebggaaGreatDoorSeg2
import Derived.BigQuiet
import Derived.Deep.RegionHeld3
import Derived.Test.YtiiioefjdebggaaGreatDoorSeg4
import Derived.Test.YtiiioefjdebggaaGreatDoorSeg11
/- The chapter's examples: the ring, the claims, another last digit. -/
namespace Go.Proofs.YtiiioefjdebggaaGreatDoor
open Go.RowKit

def ringK : Ky := ⟨⟨#[107, 49]⟩, ⟨#[115, 101, 99, 114, 101, 116]⟩, 0, 100, 0, 200⟩
theorem ring_any (w : World) :
    Calls Tryz.prog 34 #[] w fun e w' => (∃ g, e = .returned (.slice (some ⟨g, 0, none⟩) 1 1) ∧ KysAt w' (some ⟨g, 0, none⟩) [ringK] ∧ w.heap.size ≤ g) ∧ Below w.heap.size w w' := by
  go_enter Tryz.func34, Tryz.ntmps34
  go_wp2_with fail
  go_ret
  refine ⟨⟨w.heap.size, rfl, ?_, Nat.le_refl _⟩, (Below.refl _ _).alloc (Nat.le_refl _) _⟩
  intro i hi
  obtain rfl : i = 0 := by have : i < 1 := hi; omega
  refine ⟨w.heap.size, 0, rfl, ?_, ?_, ?_, ?_, ?_, ?_⟩
  all_goals exact cell_of_row _ _ _ _ _ (0, 0) (heap_alloc_new w _)
def sm26A : List ByteArray := [⟨#[109, 97, 105, 108]⟩]
def sm26S : List ByteArray := [⟨#[109, 97, 105, 108, 46, 114, 101, 97, 100]⟩]
def sm26 : Cl := ⟨⟨#[97, 99, 99, 101, 115, 115]⟩, ⟨#[105, 100, 101, 110, 116, 105, 116, 121, 58, 116]⟩, ⟨#[97, 110, 110]⟩, ⟨#[97, 112, 112]⟩, ⟨#[116]⟩, ⟨#[117, 49]⟩, ⟨#[]⟩, ⟨#[]⟩, sm26A, sm26S, [], 10, 10, 60, 5, 1⟩
theorem sm26_check : checkE sm26 = 0 := by decide +kernel
theorem sm26_size : (encS sm26).size ≤ 4096 := by decide +kernel
theorem sm26_enc : encE sm26 = 0 ∧ encV sm26 = encS sm26 := enc_good sm26_check (by have := sm26_size; omega)
theorem sm26_dec : IsDec (encV sm26) sm26 := ⟨sm26_check, sm26_enc.2.symm, by rw [sm26_enc.2]; exact sm26_size⟩
theorem ring_keys : keysE [ringK] = 0 := by decide +kernel
theorem ring_sig : sigO [ringK] 50 = some ringK := by
  rw [sigO, if_pos ring_keys]
  show sigStep 50 none ringK = _
  rw [sigStep, if_pos (by decide)]
  rfl
theorem ring_find : findK [ringK] ringK.id = some ringK := findK_some (l := [ringK]) (i := 0) (by decide) rfl (fun j hj => by omega)
theorem sm26_sign : signE [ringK] sm26 50 = 0 ∧ signV [ringK] sm26 50 = headS ringK.id (encV sm26) ++ ⟨#[46]⟩ ++ sgnS ringK.sec (headS ringK.id (encV sm26)) := sign_ok ring_keys sm26_check ring_sig sm26_enc.1
def tok26 : ByteArray := headS ringK.id (encV sm26) ++ ⟨#[46]⟩ ++ sgnS ringK.sec (headS ringK.id (encV sm26))
theorem tok26_is : TokIs tok26 ringK.id (encV sm26) (sgnS ringK.sec (headS ringK.id (encV sm26))) := ⟨by decide +kernel, sgnS_hex _ _, rfl⟩
theorem tok26_size : 21 ≤ tok26.size ∧ tok26.size ≤ 10000 := by
  have h1 := headS_size ringK.id (encV sm26)
  have h2 := sgnS_size ringK.sec (headS ringK.id (encV sm26))
  have h3 := enc_len sm26_enc.1
  have h4 : ringK.id.size = 2 := rfl
  have h5 : 12 ≤ (encV sm26).size := by rw [sm26_enc.2]; decide +kernel
  have h6 : (⟨#[46]⟩ : ByteArray).size = 1 := rfl
  rw [tok26, ByteArray.size_append, ByteArray.size_append]
  omega
theorem tok26_head : tok26.extract 0 3 = ⟨#[107, 49, 46]⟩ := by
  apply ba_list
  rw [ext_to, tok26, headS]
  simp only [app_list, dot_list]
  rfl
/-- The same with another last byte. -/
def lastB (s : ByteArray) : UInt8 := s.data.toList.getLastD 0
def otherS (s : ByteArray) : ByteArray := s.extract 0 (s.size - 1) ++ (if lastB s = 48 then ⟨#[49]⟩ else ⟨#[48]⟩)
theorem lastB_at {s : ByteArray} (h : 0 < s.size) : lastB s = s[s.size - 1] := by
  rw [lastB, List.getLastD_eq_getLast?, List.getLast?_eq_getElem?, List.getElem?_eq_getElem (by simp; omega), Option.getD_some, Array.getElem_toList]
  simp; rfl
set_option maxHeartbeats 1000000 in
theorem other_any (s : ByteArray) (w : World) (h0 : 0 < s.size) (hs : s.size ≤ 1000000000) :
    Calls Tryz.prog 36 #[.string s] w fun e w' => e = .returned (.string (otherS s)) ∧ w = w' := by
  have hl := lastB_at h0
  have i0 : (0 : Int) ≤ (s.size : Int) - 1 := by omega
  have i1 : (s.size : Int) - 1 < (s.size : Int) := by omega
  have i2 : ((s.size : Int) - 1).toNat = s.size - 1 := by omega
  have i3 : IntKind.i64.wrap ((s.size : Int) - 1) = (s.size : Int) - 1 := by rw [IntKind.wrap_i64]; omega
  have i4 : (s.size : Int) - 1 ≤ (s.size : Int) := by omega
  have hz : (s.extract 0 (s.size - 1)).size = s.size - 1 := by rw [ByteArray.size_extract]; omega
  by_cases hc : s[s.size - 1] = 48
  · have HV : Hid (otherS s = s.extract 0 (s.size - 1) ++ ⟨#[49]⟩) := Lib.hid (by rw [otherS, if_pos (hl.trans hc)])
    have e1 : ((s[s.size - 1].toNat : Int) == 48) = true := by rw [hc]; rfl
    clear hl hc
    go_enter Tryz.func36, Tryz.ntmps36
    go_wp2_with fail
    go_ret
    exact ⟨ret_str HV.out.symm, rfl⟩
  · have HV : Hid (otherS s = s.extract 0 (s.size - 1) ++ ⟨#[48]⟩) := Lib.hid (by rw [otherS, if_neg (by rw [hl]; exact hc)])
    have e1 : ((s[s.size - 1].toNat : Int) == 48) = false := by
      rw [beq_eq_false_iff_ne]
      intro e
      exact hc (UInt8.toNat_inj.1 (by show _ = 48; omega))
    clear hl hc
    go_enter Tryz.func36, Tryz.ntmps36
    go_wp2_with fail
    go_ret
    exact ⟨ret_str HV.out.symm, rfl⟩
end Go.Proofs.YtiiioefjdebggaaGreatDoor

/- The laws' few and short. -/
namespace Go.Proofs.YtiiioefjdebggaaGreatDoor
open Go.RowKit

/-- What few says where it answers true. -/
def FewK (l : List Ky) : Prop := ∀ k ∈ l, min k.id.size 5000 + min k.sec.size 5000 ≤ 5000
set_option maxHeartbeats 4000000 in
set_option maxRecDepth 100000 in
theorem few26_any (l : List Ky) (A : Option Addr) (c : Nat) (w : World) (hS : KysAt w A l) (hl : l.length ≤ 9223372036854775807) :
    Calls Tryz.prog 12 #[.slice A l.length c] w fun e w' => (∃ b, e = .returned (.bool b) ∧ (b = true → l.length ≤ 40 ∧ FewK l)) ∧ Below w.heap.size w w' := by
  have HS := Lib.hid hS
  clear hS
  by_cases h40 : 40 < l.length
  · go_enter Tryz.func12, Tryz.ntmps12
    go_wp2_with fail
    go_ret
    exact ⟨⟨false, rfl, fun h => by cases h⟩, Below.refl _ _⟩
  · go_enter Tryz.func12, Tryz.ntmps12
    go_wp2_with fail
    go_loopw [3, 4] (fun n i wr => ∃ (k : Nat) (z : Int), k ≤ l.length ∧ i = .int .i64 k ∧ n = .int .i64 z ∧ Hid (0 ≤ z ∧ z ≤ 10000 * (k : Int)) ∧ Hid (∀ j, (h : j < l.length) → j < k → ((min l[j].id.size 5000 + min l[j].sec.size 5000 : Nat) : Int) ≤ z) ∧ Hid (Below w.heap.size w wr)) (fun _ i _ => l.length - (intOf i).toNat)
    case atStart => exact ⟨0, 0, Nat.zero_le _, rfl, rfl, Lib.hid ⟨by omega, by omega⟩, Lib.hid (fun j _ h => absurd h (Nat.not_lt_zero _)), Lib.hid (Below.refl _ _)⟩
    case round =>
      obtain ⟨k, z, hk, rfl, rfl, HZ, HJ, BR⟩ := hrel
      by_cases hlt : k < l.length
      · obtain ⟨b, o, rfl, hat⟩ := (HS.out.below BR.out).at k hlt
        have c0 := hat.c0
        have c1 := hat.c1
        have HJ2 := Lib.hid (fun (z' : Int) (h1 : z ≤ z') (h2 : ((min l[k].id.size 5000 + min l[k].sec.size 5000 : Nat) : Int) ≤ z') => (show ∀ j, (h : j < l.length) → j < k + 1 → ((min l[j].id.size 5000 + min l[j].sec.size 5000 : Nat) : Int) ≤ z' from fun j hj hjk => by
          rcases Nat.lt_succ_iff_lt_or_eq.1 hjk with h3 | rfl
          · exact Int.le_trans (HJ.out j hj h3) h1
          · exact h2))
        obtain ⟨x, HX⟩ : ∃ x, Hid (l[k].id = x) := ⟨_, Lib.hid rfl⟩
        obtain ⟨y, HY⟩ : ∃ x, Hid (l[k].sec = x) := ⟨_, Lib.hid rfl⟩
        rw [HX.out] at c0 HJ2
        rw [HY.out] at c1 HJ2
        have hz1 := HZ.out.1
        have hz2 := HZ.out.2
        have k0 : (0 : Int) ≤ (k : Int) := by omega
        have k1 : (k : Int) < (l.length : Int) := by omega
        have w1 : IntKind.i64.wrap (z + min (x.size : Int) 5000) = z + min (x.size : Int) 5000 := by rw [IntKind.wrap_i64]; omega
        have w2 : IntKind.i64.wrap (z + min (x.size : Int) 5000 + min (y.size : Int) 5000) = z + min (x.size : Int) 5000 + min (y.size : Int) 5000 := by rw [IntKind.wrap_i64]; omega
        have BD := Lib.hid BR.out.drew
        clear hat
        go_wp2_with fail
        go_region_held3 (fun w' => w'.cell? ⟨b, o + k * 6, none⟩ = some (.string x) ∧ w'.cell? ⟨b, o + k * 6 + 1, none⟩ = some (.string y)) (first | go_keep | (exact ⟨c0, c1⟩)) (fail)
        all_goals
          go_wp2_with fail
          go_roundw
          case rel => exact ⟨k + 1, z + min (x.size : Int) 5000 + min (y.size : Int) 5000, hlt, by go_num, rfl, Lib.hid ⟨by omega, by omega⟩, Lib.hid (HJ2.out _ (by omega) (by omega)), BD⟩
          case measure => simp [intOf]; omega
      · have HA : Hid (z ≤ 5000 → FewK l) := Lib.hid (fun h x hx => by
          obtain ⟨j, hj, rfl⟩ := List.getElem_of_mem hx
          have := HJ.out j hj (by omega)
          omega)
        have hl40 : l.length ≤ 40 := by omega
        go_wp2_with fail
        go_ret
        exact ⟨⟨decide (z ≤ 5000), rfl, fun h => ⟨hl40, HA.out (of_decide_eq_true h)⟩⟩, BR.out⟩
end Go.Proofs.YtiiioefjdebggaaGreatDoor

/- The laws' short. -/
namespace Go.Proofs.YtiiioefjdebggaaGreatDoor
open Go.RowKit

def ShortC (c : Cl) : Prop := c.aud.length ≤ 40 ∧ c.sco.length ≤ 40 ∧ c.act.length ≤ 40
def strO8 (c : Cl) : Obj := .cells #[.string c.kind, .string c.issuer, .string c.subject, .string c.client, .string c.tenant, .string c.id, .string c.session, .string c.nonce] 59 (0, 0)
def lstO3 (c : Cl) (p : P3) : Obj := .cells #[.slice p.a1 c.aud.length p.c1, .slice p.a2 c.sco.length p.c2, .slice p.a3 c.act.length p.c3] 60 (0, 0)
theorem str8_at {w : World} {g : Nat} {c : Cl} (h : w.heap[g]? = some (strO8 c)) (k : Nat) (hk : k < 8) : w.cell? ⟨g, k, none⟩ = some (.string (strAt c k)) := by
  rw [cell_of_row w g k _ _ (0, 0) h]
  rcases k with _|_|_|_|_|_|_|_|k <;> first | omega | rfl
theorem lst3_at {w : World} {g : Nat} {c : Cl} {p : P3} (h : w.heap[g]? = some (lstO3 c p)) (k : Nat) (hk : k < 3) : w.cell? ⟨g, k, none⟩ = some (.slice (adrAt p k) (lstAt c k).length (capAt p k)) := by
  rw [cell_of_row w g k _ _ (0, 0) h]
  rcases k with _|_|_|k <;> first | omega | rfl
theorem short_of {c : Cl} (h : ∀ j, j < 3 → (lstAt c j).length ≤ 40) : ShortC c := ⟨h 0 (by omega), h 1 (by omega), h 2 (by omega)⟩
set_option maxHeartbeats 8000000 in
set_option maxRecDepth 100000 in
theorem short26_any (c : Cl) (p : P3) (w : World) (hC : ClAt w c p) (ic : ClIn c p) :
    Calls Tryz.prog 13 #[clV c p] w fun e w' => (∃ b, e = .returned (.bool b) ∧ (b = true → ShortC c)) ∧ Below w.heap.size w w' := by
  have X1 : Hid (ClBox (w.alloc (clO c p)) w.heap.size c p) := Lib.hid (ClBox.new w c p)
  obtain ⟨q0, q1, q2, q3, q4, q5, q6, q7, q8, q9, q10, _⟩ := X1.out.cells
  have HC := Lib.hid hC
  have IC := Lib.hid ic
  clear hC ic
  go_enter Tryz.func13, Tryz.ntmps13
  go_upto_region 1 with (first | (refine box_cl rfl _ rfl _ rfl c p rfl ?_) | fail)
  go_wp2_with fail
  have B1 : Hid (Below w.heap.size w ((w.alloc (clO c p)).alloc (strO8 c))) := Lib.hid (((Below.refl _ _).alloc (Nat.le_refl _) _).alloc (by simp) _)
  have S1 : Hid (((w.alloc (clO c p)).alloc (strO8 c)).heap[w.heap.size + 1]? = some (strO8 c)) := Lib.hid (by have h := heap_alloc_new (w.alloc (clO c p)) (strO8 c); simpa using h)
  have X2 : Hid (ClBox ((w.alloc (clO c p)).alloc (strO8 c)) w.heap.size c p) := Lib.hid (X1.out.below ((Below.refl _ _).alloc (Nat.le_refl _) _))
  clear q0 q1 q2 q3 q4 q5 q6 q7 q8 q9 q10 X1
  obtain ⟨W1, HW1⟩ : ∃ W, Hid (((w.alloc (clO c p)).alloc (strO8 c)) = W) := ⟨_, Lib.hid rfl⟩
  rw [HW1.out] at B1 S1 X2
  go_loopw [3, 5] (fun n i wr => ∃ (k : Nat) (z : Int), k ≤ 8 ∧ i = .int .i64 k ∧ n = .int .i64 z ∧ Hid (0 ≤ z ∧ z ≤ 5000 * (k : Int)) ∧ Hid (Below W1.heap.size W1 wr)) (fun _ i _ => 8 - (intOf i).toNat)
  case atStart => exact ⟨0, 0, Nat.zero_le _, rfl, rfl, Lib.hid ⟨by omega, by omega⟩, Lib.hid (by rw [← HW1.out]; exact Below.refl _ _)⟩
  case round =>
    obtain ⟨k, z, hk, rfl, rfl, HZ, BR⟩ := hrel
    have hz1 := HZ.out.1
    have hz2 := HZ.out.2
    by_cases hlt : k < 8
    · have c0 := str8_at ((BR.out.block _ (Array.getElem?_eq_some_iff.1 S1.out).1).trans S1.out) k hlt
      obtain ⟨s, HS⟩ : ∃ s, Hid (strAt c k = s) := ⟨_, Lib.hid rfl⟩
      rw [HS.out] at c0
      have k0 : (0 : Int) ≤ (k : Int) := by omega
      have k1 : (k : Int) < 8 := by omega
      have w1 : IntKind.i64.wrap (z + min (s.size : Int) 5000) = z + min (s.size : Int) 5000 := by rw [IntKind.wrap_i64]; omega
      go_wp2_with fail
      go_roundw
      case rel => exact ⟨k + 1, z + min (s.size : Int) 5000, hlt, by go_num, rfl, Lib.hid ⟨by omega, by omega⟩, BR⟩
      case measure => simp [intOf]; omega
    · obtain rfl : k = 8 := by omega
      have X3 := Lib.hid (X2.out.below BR.out)
      obtain ⟨_, _, _, _, _, _, _, _, q8, q9, q10, _⟩ := X3.out.cells
      have B3 := Lib.hid (bthen B1.out BR.out)
      have B4 : Hid (Below w.heap.size w (wr.alloc (lstO3 c p))) := Lib.hid (B3.out.alloc B3.out.size _)
      have L4 : Hid ((wr.alloc (lstO3 c p)).heap[wr.heap.size]? = some (lstO3 c p)) := Lib.hid (heap_alloc_new wr _)
      clear X3 B1 S1 X2 BR
      go_wp2_with fail
      clear q8 q9 q10
      obtain ⟨W4, HW4⟩ : ∃ W, Hid (wr.alloc (lstO3 c p) = W) := ⟨_, Lib.hid rfl⟩
      obtain ⟨g, HGG⟩ : ∃ g, Hid (wr.heap.size = g) := ⟨_, Lib.hid rfl⟩
      rw [HW4.out] at B4 L4
      rw [HGG.out] at L4
      rw [HGG.out]
      go_loopw [3, 7, 8] (fun n i _ w5 => ∃ (k : Nat) (z : Int), k ≤ 3 ∧ i = .int .i64 k ∧ n = .int .i64 z ∧ Hid (0 ≤ z ∧ z ≤ 40000 + 200000 * (k : Int)) ∧ Hid (∀ j, j < k → (lstAt c j).length ≤ 40) ∧ Hid (Below W4.heap.size W4 w5)) (fun _ i _ _ => 3 - (intOf i).toNat)
      case atStart => exact ⟨0, z, Nat.zero_le _, rfl, rfl, Lib.hid ⟨by omega, by omega⟩, Lib.hid (fun j h => absurd h (Nat.not_lt_zero _)), Lib.hid (by rw [← HW4.out]; exact Below.refl _ _)⟩
      case round =>
        rename_i w5 _
        obtain ⟨i, z, hi, rfl, rfl, HZ, HJ, BR⟩ := hrel
        have hz1 := HZ.out.1
        have hz2 := HZ.out.2
        by_cases hlt : i < 3
        · have hl4 := lst3_at ((BR.out.block _ (Array.getElem?_eq_some_iff.1 L4.out).1).trans L4.out) i hlt
          have HST := Lib.hid (((HC.out.below B4.out).below BR.out).lst i hlt)
          have i0 : (0 : Int) ≤ (i : Int) := by omega
          have i1 : (i : Int) < 3 := by omega
          have HJ2 := Lib.hid (fun (h : (lstAt c i).length ≤ 40) => (show ∀ j, j < i + 1 → (lstAt c j).length ≤ 40 from fun j hj => by
            rcases Nat.lt_succ_iff_lt_or_eq.1 hj with h1 | rfl
            · exact HJ.out j h1
            · exact h))
          obtain ⟨x, HX⟩ : ∃ s, Hid (lstAt c i = s) := ⟨_, Lib.hid rfl⟩
          obtain ⟨A, HA⟩ : ∃ s, Hid (adrAt p i = s) := ⟨_, Lib.hid rfl⟩
          obtain ⟨n, HN⟩ : ∃ s, Hid (capAt p i = s) := ⟨_, Lib.hid rfl⟩
          rw [HX.out, HA.out, HN.out] at hl4
          rw [HX.out, HA.out] at HST
          rw [HX.out] at HJ2
          by_cases h40 : 40 < x.length
          · go_wp2_with fail
            go_ret
            exact ⟨⟨false, rfl, fun h => by cases h⟩, bthen B4.out BR.out⟩
          · go_wp2_with fail
            have BR0 := BR
            go_loopw [3, 8] (fun n j w6 => ∃ (k : Nat) (y : Int), k ≤ x.length ∧ j = .int .i64 k ∧ n = .int .i64 y ∧ Hid (0 ≤ y ∧ y ≤ z + 5000 * (k : Int)) ∧ Hid (Below W4.heap.size W4 w6)) (fun _ j _ => x.length - (intOf j).toNat)
            case atStart => exact ⟨0, z, Nat.zero_le _, rfl, rfl, Lib.hid ⟨by omega, by omega⟩, BR0⟩
            case round =>
              obtain ⟨k, y, hk, rfl, rfl, HY, BS⟩ := hrel
              have hy1 := HY.out.1
              have hy2 := HY.out.2
              have hl5 := lst3_at ((BS.out.block _ (Array.getElem?_eq_some_iff.1 L4.out).1).trans L4.out) i hlt
              rw [HX.out, HA.out, HN.out] at hl5
              by_cases hkx : k < x.length
              · obtain ⟨b, o, hA, hc⟩ := (((HC.out.below B4.out).below BS.out).lst i hlt) k (by rw [HX.out]; exact hkx)
                rw [HA.out] at hA
                subst hA
                simp only [HX.out] at hc
                obtain ⟨s, HS⟩ : ∃ s, Hid (x[k] = s) := ⟨_, Lib.hid rfl⟩
                rw [HS.out] at hc
                have k0 : (0 : Int) ≤ (k : Int) := by omega
                have k1 : (k : Int) < (x.length : Int) := by omega
                have w1 : IntKind.i64.wrap (y + min (s.size : Int) 5000) = y + min (s.size : Int) 5000 := by rw [IntKind.wrap_i64]; omega
                go_wp2_with fail
                go_roundw
                case rel => exact ⟨k + 1, y + min (s.size : Int) 5000, hkx, by go_num, rfl, Lib.hid ⟨by omega, by omega⟩, BS⟩
                case measure => simp [intOf]; omega
              · have hx40 : x.length ≤ 40 := by omega
                have HJ3 := Lib.hid (HJ2.out hx40)
                go_wp2_with fail
                go_roundw
                case rel => exact ⟨i + 1, y, hlt, by go_num, rfl, Lib.hid ⟨by omega, by omega⟩, HJ3, BS⟩
                case measure => simp [intOf]; omega
        · have HSH : Hid (ShortC c) := Lib.hid (short_of (fun j hj => HJ.out j (by omega)))
          go_wp2_with fail
          go_ret
          exact ⟨⟨decide (z ≤ 3000), rfl, fun _ => HSH.out⟩, bthen B4.out BR.out⟩
end Go.Proofs.YtiiioefjdebggaaGreatDoor

/- The chapter's examples: what they compute. -/
namespace Go.Proofs.YtiiioefjdebggaaGreatDoor
open Go.RowKit

theorem hex_list {S : ByteArray} (h : readHexE S = 0) : S.size = 16 ∧ ∃ n, readL S.data.toList = some n := by
  refine ⟨hex_size h, ?_⟩
  rw [readHexE, readHexO, if_pos (hex_size h)] at h
  cases hr : readL S.data.toList with
  | none => rw [hr] at h; simp at h
  | some n => exact ⟨n, rfl⟩
theorem hex_mk {S : ByteArray} (h : S.size = 16) {n : Nat} (hr : readL S.data.toList = some n) : readHexE S = 0 := by
  rw [readHexE, readHexO, if_pos h, hr]; rfl
theorem other_sum {H S : ByteArray} (hS : readHexE S = 0) : ∃ S', otherS (H ++ dotS ++ S) = H ++ dotS ++ S' ∧ readHexE S' = 0 ∧ S' ≠ S := by
  obtain ⟨hz, n, hr⟩ := hex_list hS
  have hl : S.data.toList.length = 16 := by simpa using hz
  obtain ⟨p, c, hpc⟩ : ∃ p c, S.data.toList = p ++ [c] := by
    have hne : S.data.toList ≠ [] := by intro e; rw [e] at hl; simp at hl
    exact ⟨_, _, (List.dropLast_concat_getLast hne).symm⟩
  have hp : p.length = 15 := by rw [hpc] at hl; simpa using hl
  have hs : (H ++ dotS ++ S).data.toList = H.data.toList ++ 46 :: p ++ [c] := by rw [app_list, app_list, dot_list, hpc]; simp
  have hsz : (H ++ dotS ++ S).size = H.size + 17 := by
    rw [ByteArray.size_append, ByteArray.size_append, hz]; rfl
  have hlast : lastB (H ++ dotS ++ S) = c := by rw [lastB, hs, List.getLastD_eq_getLast?, List.getLast?_concat]; rfl
  have hfront : ((H ++ dotS ++ S).extract 0 ((H ++ dotS ++ S).size - 1)).data.toList = H.data.toList ++ 46 :: p := by
    rw [ext_to, hs, List.take_left']
    rw [hsz]; simp; omega
  have hread : ∀ d e, hexVal d = some e → readHexE (⟨(p ++ [d]).toArray⟩ : ByteArray) = 0 := by
    intro d e hd
    have h15 : ∃ m, readL p = some m := by
      cases hm : readL p with
      | none =>
        rw [hpc, readL, List.foldl_append] at hr
        rw [readL] at hm
        rw [hm] at hr
        cases hr
      | some m => exact ⟨m, rfl⟩
    obtain ⟨m, hm⟩ := h15
    refine hex_mk (n := m * 16 + e) ?_ ?_
    · show (p ++ [d]).toArray.size = 16
      simp [hp]
    · show readL (p ++ [d]) = _
      rw [readL] at hm
      rw [readL, List.foldl_append, hm]
      simp [readStep, hd]
  by_cases hc : c = 48
  · refine ⟨⟨(p ++ [49]).toArray⟩, ?_, hread 49 1 (by decide), fun e => ?_⟩
    · apply ba_list
      rw [otherS, hlast, if_pos hc, app_list, hfront, app_list, app_list, dot_list]
      simp
    · have := congrArg (fun x : ByteArray => x.data.toList) e
      simp only [hpc] at this
      have h2 : p ++ [49] = p ++ [c] := this
      rw [hc] at h2
      simp at h2
  · refine ⟨⟨(p ++ [48]).toArray⟩, ?_, hread 48 0 (by decide), fun e => ?_⟩
    · apply ba_list
      rw [otherS, hlast, if_neg hc, app_list, hfront, app_list, app_list, dot_list]
      simp
    · have := congrArg (fun x : ByteArray => x.data.toList) e
      simp only [hpc] at this
      have h2 : p ++ [48] = p ++ [c] := this
      simp at h2
      exact hc h2.symm
def exA26 : Ex := ⟨⟨#[97, 99, 99, 101, 115, 115]⟩, ⟨#[105, 100, 101, 110, 116, 105, 116, 121, 58, 116]⟩, ⟨#[109, 97, 105, 108]⟩, ⟨#[116]⟩, 50, 0⟩
def exB26 : Ex := ⟨⟨#[97, 99, 99, 101, 115, 115]⟩, ⟨#[105, 100, 101, 110, 116, 105, 116, 121, 58, 116]⟩, ⟨#[102, 105, 108, 101, 115]⟩, ⟨#[116]⟩, 50, 0⟩
def exC26 : Ex := ⟨⟨#[97, 99, 99, 101, 115, 115]⟩, ⟨#[105, 100, 101, 110, 116, 105, 116, 121, 58, 116]⟩, ⟨#[109, 97, 105, 108]⟩, ⟨#[116]⟩, 50, 5⟩
theorem ver_a : verE [ringK] tok26 exA26 = 0 ∧ verC [ringK] tok26 exA26 = sm26 := by
  have h := (ver_all (x := exA26) tok26_is ring_find (by decide) rfl sm26_dec).trans (show allowE sm26 exA26 = 0 by decide +kernel)
  exact ⟨h, (ver_get tok26_is ring_find sm26_dec h).2⟩
theorem ver_b : verE [ringK] tok26 exB26 = 15 := (ver_all (x := exB26) tok26_is ring_find (by decide) rfl sm26_dec).trans (show allowE sm26 exB26 = 15 by decide +kernel)
theorem ver_o : verE [ringK] (otherS tok26) exA26 = 17 := by
  obtain ⟨S, h1, h2, h3⟩ := other_sum (H := headS ringK.id (encV sm26)) (sgnS_hex ringK.sec (headS ringK.id (encV sm26)))
  have ht : TokIs (otherS tok26) ringK.id (encV sm26) S := ⟨tok26_is.1, h2, h1⟩
  exact ver_sig ht ring_find (by decide) h3
theorem left_c : leftV [ringK] tok26 exC26 = 15 := by
  have h := (ver_all (x := exC26) tok26_is ring_find (by decide) rfl sm26_dec).trans (show allowE sm26 exC26 = 0 by decide +kernel)
  obtain ⟨h1, h2⟩ := ver_get tok26_is ring_find sm26_dec h
  rw [leftV, if_pos h, h1, h2]
  decide
theorem otherS_size {s : ByteArray} (h : 1 ≤ s.size) : (otherS s).size = s.size := by
  rw [otherS, ByteArray.size_append, ByteArray.size_extract]
  split
  · have : (⟨#[49]⟩ : ByteArray).size = 1 := rfl
    omega
  · have : (⟨#[48]⟩ : ByteArray).size = 1 := rfl
    omega
theorem ab_no : ∀ a b c, ¬ TokIs ⟨#[97, 46, 98]⟩ a b c := by
  rintro a b c h
  have hp := h.parts
  have h1 := congrArg ByteArray.size hp.1
  have h2 := hex_size h.2.1
  rw [ByteArray.size_append, ByteArray.size_append, ByteArray.size_append, ByteArray.size_append, h2] at h1
  have h3 : (⟨#[97, 46, 98]⟩ : ByteArray).size = 3 := rfl
  omega
theorem ring_sec : ∀ k ∈ [ringK], wordS k.id = true → k.sec.size ≤ 140737488351232 := by
  intro k hk _
  rw [List.mem_singleton] at hk
  subst hk
  decide
set_option maxHeartbeats 1000000 in
set_option maxRecDepth 100000 in
theorem some26_any (w : World) :
    Calls Tryz.prog 35 #[] w fun e w' => (∃ p, e = .returned (clV sm26 p) ∧ ClAt w' sm26 p ∧ Caps sm26 p) ∧ Below w.heap.size w w' := by
  have X1 : Hid (ClBox (((w.alloc (clO cl0 p30)).alloc (.cells #[.string ⟨#[109, 97, 105, 108]⟩] 9)).alloc (.cells #[.string ⟨#[109, 97, 105, 108, 46, 114, 101, 97, 100]⟩] 9)) w.heap.size cl0 p30) := Lib.hid ((ClBox.new w cl0 p30).below (((Below.refl _ _).alloc (Nat.le_refl _) _).alloc (by simp) _))
  have B1 : Hid (Below w.heap.size w (((w.alloc (clO cl0 p30)).alloc (.cells #[.string ⟨#[109, 97, 105, 108]⟩] 9)).alloc (.cells #[.string ⟨#[109, 97, 105, 108, 46, 114, 101, 97, 100]⟩] 9))) := Lib.hid ((((Below.refl _ _).alloc (Nat.le_refl _) _).alloc (by simp) _).alloc (by simp; omega) _)
  have S1 : Hid (Strs (((w.alloc (clO cl0 p30)).alloc (.cells #[.string ⟨#[109, 97, 105, 108]⟩] 9)).alloc (.cells #[.string ⟨#[109, 97, 105, 108, 46, 114, 101, 97, 100]⟩] 9)) (some ⟨w.heap.size + 1, 0, none⟩) sm26A) := Lib.hid (by
    have h := strs_row (l := sm26A) (heap_alloc_new (w.alloc (clO cl0 p30)) (.cells #[.string ⟨#[109, 97, 105, 108]⟩] 9)) (fun j hj => by
      have : j < 1 := hj
      rcases j with _|j <;> first | omega | rfl)
    rw [show (w.alloc (clO cl0 p30)).heap.size = w.heap.size + 1 by simp] at h
    exact h.below ((Below.refl _ _).alloc (Nat.le_refl _) _))
  have S2 : Hid (Strs (((w.alloc (clO cl0 p30)).alloc (.cells #[.string ⟨#[109, 97, 105, 108]⟩] 9)).alloc (.cells #[.string ⟨#[109, 97, 105, 108, 46, 114, 101, 97, 100]⟩] 9)) (some ⟨w.heap.size + 2, 0, none⟩) sm26S) := Lib.hid (by
    have h := strs_row (l := sm26S) (heap_alloc_new ((w.alloc (clO cl0 p30)).alloc (.cells #[.string ⟨#[109, 97, 105, 108]⟩] 9)) (.cells #[.string ⟨#[109, 97, 105, 108, 46, 114, 101, 97, 100]⟩] 9)) (fun j hj => by
      have : j < 1 := hj
      rcases j with _|j <;> first | omega | rfl)
    rwa [show ((w.alloc (clO cl0 p30)).alloc (.cells #[.string ⟨#[109, 97, 105, 108]⟩] 9)).heap.size = w.heap.size + 2 by simp] at h)
  go_enter Tryz.func35, Tryz.ntmps35
  go_wp2_with (first | (refine alloc_cl rfl _ rfl rfl ?_) | (refine store_cl rfl _ rfl _ _ rfl w.heap.size rfl sm26 ⟨some ⟨w.heap.size + 1, 0, none⟩, 1, some ⟨w.heap.size + 2, 0, none⟩, 1, none, 0⟩ rfl cl0 p30 X1 ?_) | fail)
  refine bodyPost_ret (v := clV sm26 ⟨some ⟨w.heap.size + 1, 0, none⟩, 1, some ⟨w.heap.size + 2, 0, none⟩, 1, none, 0⟩) (ret_cl Tryz.results35 _ _ w.heap.size sm26 _ rfl (X1.out.set)) rfl ⟨⟨_, rfl, ⟨?_, ?_, ?_⟩, ⟨by show 1 ≤ 1; omega, by show 1 ≤ 1; omega, by show 0 ≤ 0; omega⟩⟩, below_setRow B1.out (Nat.le_refl _) _⟩
  · exact S1.out.setRow (fun q hq => by cases hq; show w.heap.size + 1 ≠ _; omega)
  · exact S2.out.setRow (fun q hq => by cases hq; show w.heap.size + 2 ≠ _; omega)
  · exact Strs.nil_ _ _
end Go.Proofs.YtiiioefjdebggaaGreatDoor

