/- proof.Bind, proof.Bound and their references. -/
import Derived.Test.YtfiogpoofpajcaaDoorPfChallenge
import Derived.Test.YtfiogpoofpajcaaDoorCut
import Derived.Test.YtfiogpoofpajcaaDoorDigRead
import Derived.Deep.RegionHeld3
import Derived.StringKeys
namespace Go.Proofs.YtfiogpoofpajcaaDoor
open Go.RowKit Go.Maps
open Go.WideMaps (keyOf_string_mk)

/-- The code of a request. -/
def codeS (secret session request : ByteArray) : ByteArray := macS secret (session ++ ⟨#[124]⟩ ++ request)
def bindS (secret session request : ByteArray) : ByteArray := if plainS session = true ∧ plainS request = true then request ++ ⟨#[46]⟩ ++ codeS secret session request else ⟨#[]⟩
theorem code_size (a b c : ByteArray) : (codeS a b c).size = 16 := textS_size _
theorem code_room (b c : ByteArray) (hb : b.size ≤ 300) (hc : c.size ≤ 300) : (b ++ ⟨#[124]⟩ ++ c).size ≤ 1000000 := by
  have h2 : (⟨#[124]⟩ : ByteArray).size = 1 := rfl
  simp only [ByteArray.size_append]; omega

set_option maxHeartbeats 1000000 in
theorem bind_any (a b c : ByteArray) (w : World) (hd : DigOk w) (hp : PowOk w) (ha : a.size ≤ 300) (hb : b.size ≤ 300) (hc : c.size ≤ 300) :
    Calls Tryd.prog 22 #[.string a, .string b, .string c] w fun e w' => e = .returned (.string (bindS a b c)) ∧ Below w.heap.size w w' := by
  have HR := Lib.hid (code_room b c hb hc)
  have hz := Nat.le_of_eq (code_size a b c)
  cases h1 : plainS b with
  | false =>
    have HV : Hid (bindS a b c = ⟨#[]⟩) := by show _ = _; simp [bindS, h1]
    go_enter Tryd.func22, Tryd.ntmps22
    go_wp2_with fail
    refine (plain_any b _ (by omega)).mono ?_
    rintro e w1 ⟨rfl, rfl⟩
    rw [h1]
    clear h1
    go_wp2_with fail
    go_ret
    exact ⟨ret_str HV.out.symm, Below.refl _ _⟩
  | true =>
    cases h2 : plainS c with
    | false =>
      have HV : Hid (bindS a b c = ⟨#[]⟩) := by show _ = _; simp [bindS, h2]
      go_enter Tryd.func22, Tryd.ntmps22
      go_wp2_with fail
      refine (plain_any b _ (by omega)).mono ?_
      rintro e w1 ⟨rfl, rfl⟩
      rw [h1]
      clear h1
      go_wp2_with fail
      refine (plain_any c _ (by omega)).mono ?_
      rintro e w1 ⟨rfl, rfl⟩
      rw [h2]
      clear h2
      go_wp2_with fail
      go_ret
      exact ⟨ret_str HV.out.symm, Below.refl _ _⟩
    | true =>
      have HV : Hid (bindS a b c = c ++ ⟨#[46]⟩ ++ codeS a b c) := by show _ = _; simp [bindS, h1, h2]
      go_enter Tryd.func22, Tryd.ntmps22
      go_wp2_with fail
      refine (plain_any b _ (by omega)).mono ?_
      rintro e w1 ⟨rfl, rfl⟩
      rw [h1]
      clear h1
      go_wp2_with fail
      refine (plain_any c _ (by omega)).mono ?_
      rintro e w1 ⟨rfl, rfl⟩
      rw [h2]
      clear h2
      go_wp2_with fail
      refine (mac_any a _ _ hd hp (by omega) HR.out).mono ?_
      rintro e w2 ⟨rfl, hb2⟩
      have hz' : (macS a (b ++ ⟨#[124]⟩ ++ c)).size ≤ 16 := hz
      go_wp2_with fail
      go_ret
      exact ⟨ret_str HV.out.symm, hb2⟩
set_option maxHeartbeats 1000000 in
theorem rbind_any (a b c : ByteArray) (w : World) (ha : a.size ≤ 300) (hb : b.size ≤ 300) (hc : c.size ≤ 300) :
    Calls Tryd.prog 25 #[.string a, .string b, .string c] w fun e w' => e = .returned (.string (bindS a b c)) ∧ w = w' := by
  have HR := Lib.hid (code_room b c hb hc)
  have hz := Nat.le_of_eq (code_size a b c)
  cases h1 : plainS b with
  | false =>
    have HV : Hid (bindS a b c = ⟨#[]⟩) := by show _ = _; simp [bindS, h1]
    go_enter Tryd.func25, Tryd.ntmps25
    go_wp2_with fail
    refine (rplain_any b _ (by omega)).mono ?_
    rintro e w1 ⟨rfl, rfl⟩
    rw [h1]
    clear h1
    go_wp2_with fail
    go_ret
    exact ⟨ret_str HV.out.symm, rfl⟩
  | true =>
    cases h2 : plainS c with
    | false =>
      have HV : Hid (bindS a b c = ⟨#[]⟩) := by show _ = _; simp [bindS, h2]
      go_enter Tryd.func25, Tryd.ntmps25
      go_wp2_with fail
      refine (rplain_any b _ (by omega)).mono ?_
      rintro e w1 ⟨rfl, rfl⟩
      rw [h1]
      clear h1
      go_wp2_with fail
      refine (rplain_any c _ (by omega)).mono ?_
      rintro e w1 ⟨rfl, rfl⟩
      rw [h2]
      clear h2
      go_wp2_with fail
      go_ret
      exact ⟨ret_str HV.out.symm, rfl⟩
    | true =>
      have HV : Hid (bindS a b c = c ++ ⟨#[46]⟩ ++ codeS a b c) := by show _ = _; simp [bindS, h1, h2]
      go_enter Tryd.func25, Tryd.ntmps25
      go_wp2_with fail
      refine (rplain_any b _ (by omega)).mono ?_
      rintro e w1 ⟨rfl, rfl⟩
      rw [h1]
      clear h1
      go_wp2_with fail
      refine (rplain_any c _ (by omega)).mono ?_
      rintro e w1 ⟨rfl, rfl⟩
      rw [h2]
      clear h2
      go_wp2_with fail
      refine (rmac_any a _ _ (by omega) HR.out).mono ?_
      rintro e w2 ⟨rfl, rfl⟩
      have hz' : (macS a (b ++ ⟨#[124]⟩ ++ c)).size ≤ 16 := hz
      go_wp2_with fail
      go_ret
      exact ⟨ret_str HV.out.symm, rfl⟩

theorem plain_small {s : ByteArray} (h : plainS s = true) : s.size ≤ 64 := by
  simp only [plainS, Bool.and_eq_true, decide_eq_true_iff] at h
  exact h.1.2
/-- proof.Bound, as the program has it: r the request, c the code. -/
def boundP (a b s : ByteArray) : ByteArray × Int :=
  if cutOk s 46 = true ∧ plainS b = true ∧ plainS (cutB s 46) = true ∧ (readHexO (cutA s 46)).isSome = true then (if cutA s 46 = codeS a b (cutB s 46) then (cutB s 46, 0) else (⟨#[]⟩, 20)) else (⟨#[]⟩, 4)
theorem keyStr : Keyed Tryd.prog 9 := string_keyed Tryd.underlying9

theorem o1d {w : World} {H : Type} {P : Program} {k : TypeId} {R : Value → Option (DataW H × List MemPlace)} {b n : Nat} {D : DataW H} (h : w.ownsMap P k R b n D) : w.drew.ownsMap P k R b n D := h
theorem open_look {w : World} {B n : Nat} {r c : ByteArray} (h : w.ownsMap Tryd.prog 9 (plainElem (H := Unit) Tryd.prog 9) B n ((DataW.map [] : DataW Unit).put (.string r.data.toList) (.lit (.string c.data.toList)))) (hr : r.size ≤ 1000000) :
    (Instr.lookup 55 (.map (some B)) (.string r) false).run Tryd.prog w = .ok (.string c) w := by
  obtain ⟨x, ps, r5, hx⟩ := h.lookup keyStr Tryd.underlying55 (zeroStr w) (plainElem_string Tryd.underlying9 (by decide)) (key := .string r) (keyOf_string_mk Tryd.underlying9 (by unfold maxLen; omega))
  obtain ⟨y, rfl, hy, _⟩ := plainElem_string_inv Tryd.underlying9 hx
  rw [atKey_put_same isMap_empty (by trivial)] at hy
  simp only [Prod.mk.injEq] at hy
  rw [str_of_lit hy.1]
  exact r5
theorem size_one {H : Type} (k : Lit) (d : DataW H) : size ((DataW.map [] : DataW H).put k d) = 1 := by
  show (DataW.insert (k, d) (([] : List (Lit × DataW H)).filter fun p => !p.1.sameKey k)).length = 1
  rw [length_insert]; rfl
theorem size_none {H : Type} (r : List UInt8) (d : DataW H) : size (((DataW.map [] : DataW H).put (.string r) d).del (.string r)) = 0 := by
  have h1 : (Lit.string r).sameKey (.string r) = true := Go.WideAt.sameKey_self (by trivial)
  show ((DataW.insert (Lit.string r, d) (([] : List (Lit × DataW H)).filter fun p => !p.1.sameKey (.string r))).filter fun p => !p.1.sameKey (.string r)).length = 0
  simp [DataW.insert, h1]
set_option maxHeartbeats 2000000 in
theorem bound_any (a b s : ByteArray) (w : World) (hd : DigOk w) (hp : PowOk w) (ha : a.size ≤ 300) (hb : b.size ≤ 300) (hs : s.size ≤ 400) :
    Calls Tryd.prog 23 #[.string a, .string b, .string s] w fun e w' => e = .returned (.tuple #[.string (boundP a b s).1, .int .i64 (boundP a b s).2]) ∧ Below w.heap.size w w' := by
  have hB := cutB_size s 46
  have hA := cutA_size s 46
  have HC := Lib.hid (cut_any s 46 w (by omega))
  have HP : Hid (boundP a b s = if cutOk s 46 = true ∧ plainS b = true ∧ plainS (cutB s 46) = true ∧ (readHexO (cutA s 46)).isSome = true then (if cutA s 46 = codeS a b (cutB s 46) then (cutB s 46, 0) else (⟨#[]⟩, 20)) else (⟨#[]⟩, 4)) := rfl
  generalize cutB s 46 = r at *
  generalize cutA s 46 = c at *
  generalize cutOk s 46 = ok at *
  generalize boundP a b s = q at *
  cases ok with
  | false =>
    have HQ : Hid (q = (⟨#[]⟩, 4)) := by show _ = _; rw [HP.out]; simp
    go_enter Tryd.func23, Tryd.ntmps23
    go_wp2_with fail
    refine HC.out.mono ?_
    rintro e w1 ⟨rfl, hb1⟩
    go_wp2_with fail
    refine (readhex_any c _ (hd.below hb1) (by omega)).mono ?_
    rintro e w2 ⟨rfl, rfl⟩
    go_wp2_with fail
    go_ret2
    exact ⟨ret_se (congrArg Prod.fst HQ.out.symm) (congrArg Prod.snd HQ.out.symm), hb1⟩
  | true =>
    cases h1 : plainS b with
    | false =>
      have HQ : Hid (q = (⟨#[]⟩, 4)) := by show _ = _; rw [HP.out]; simp [h1]
      go_enter Tryd.func23, Tryd.ntmps23
      go_wp2_with fail
      refine HC.out.mono ?_
      rintro e w1 ⟨rfl, hb1⟩
      go_wp2_with fail
      refine (readhex_any c _ (hd.below hb1) (by omega)).mono ?_
      rintro e w2 ⟨rfl, rfl⟩
      go_wp2_with fail
      refine (plain_any b _ (by omega)).mono ?_
      rintro e w2 ⟨rfl, rfl⟩
      rw [h1]
      clear h1
      go_wp2_with fail
      go_ret2
      exact ⟨ret_se (congrArg Prod.fst HQ.out.symm) (congrArg Prod.snd HQ.out.symm), hb1⟩
    | true =>
      cases h2 : plainS r with
      | false =>
        have HQ : Hid (q = (⟨#[]⟩, 4)) := by show _ = _; rw [HP.out]; simp [h2]
        go_enter Tryd.func23, Tryd.ntmps23
        go_wp2_with fail
        refine HC.out.mono ?_
        rintro e w1 ⟨rfl, hb1⟩
        go_wp2_with fail
        refine (readhex_any c _ (hd.below hb1) (by omega)).mono ?_
        rintro e w2 ⟨rfl, rfl⟩
        go_wp2_with fail
        refine (plain_any b _ (by omega)).mono ?_
        rintro e w2 ⟨rfl, rfl⟩
        rw [h1]
        clear h1
        go_wp2_with fail
        refine (plain_any r _ (by omega)).mono ?_
        rintro e w2 ⟨rfl, rfl⟩
        rw [h2]
        clear h2
        go_wp2_with fail
        go_ret2
        exact ⟨ret_se (congrArg Prod.fst HQ.out.symm) (congrArg Prod.snd HQ.out.symm), hb1⟩
      | true =>
        cases h3 : (readHexO c).isSome with
        | false =>
          have HQ : Hid (q = (⟨#[]⟩, 4)) := by show _ = _; rw [HP.out]; simp [h3]
          have he : readHexE c = 4 := by simp [readHexE, h3]
          have HE := Lib.hid he
          clear h3 he
          go_enter Tryd.func23, Tryd.ntmps23
          go_wp2_with fail
          refine HC.out.mono ?_
          rintro e w1 ⟨rfl, hb1⟩
          go_wp2_with fail
          refine (readhex_any c _ (hd.below hb1) (by omega)).mono ?_
          rintro e w2 ⟨rfl, rfl⟩
          rw [HE.out]
          go_wp2_with fail
          refine (plain_any b _ (by omega)).mono ?_
          rintro e w2 ⟨rfl, rfl⟩
          rw [h1]
          clear h1
          go_wp2_with fail
          refine (plain_any r _ (by omega)).mono ?_
          rintro e w2 ⟨rfl, rfl⟩
          rw [h2]
          clear h2
          go_wp2_with fail
          go_ret2
          exact ⟨ret_se (congrArg Prod.fst HQ.out.symm) (congrArg Prod.snd HQ.out.symm), hb1⟩
        | true =>
          have he : readHexE c = 0 := by simp [readHexE, h3]
          have HE := Lib.hid he
          have HQ : Hid (q = if c = codeS a b r then (r, 0) else (⟨#[]⟩, 20)) := by show _ = _; rw [HP.out, if_pos ⟨rfl, h1, h2, h3⟩]
          clear h3 he HP
          go_enter Tryd.func23, Tryd.ntmps23
          go_wp2_with fail
          refine HC.out.mono ?_
          rintro e w1 ⟨rfl, hb1⟩
          have HB1 := Lib.hid hb1
          clear hb1
          go_wp2_with fail
          refine (readhex_any c _ (hd.below HB1.out) (by omega)).mono ?_
          rintro e w2 ⟨rfl, rfl⟩
          rw [HE.out]
          go_wp2_with fail
          refine (plain_any b _ (by omega)).mono ?_
          rintro e w2 ⟨rfl, rfl⟩
          rw [h1]
          clear h1
          go_wp2_with fail
          refine (plain_any r _ (by omega)).mono ?_
          rintro e w2 ⟨rfl, rfl⟩
          rw [h2]
          have HP2 := Lib.hid h2
          clear h2
          have hmm := @run_makeMap Tryd.prog
          have o0 := World.ownsMap_made w1 Tryd.prog 9 (plainElem (H := Unit) Tryd.prog 9)
          have hrk : keyOf Tryd.prog 9 (.string r) = some (.string r.data.toList) := keyOf_string_mk Tryd.underlying9 (by unfold maxLen; omega)
          obtain ⟨w2, r1, o1, g1⟩ := o0.update keyStr Tryd.underlying55 (by decide) (key := .string r) (val := .string c) hrk (plainElem_string Tryd.underlying9 (by unfold maxLen; omega))
          have b2 : Below w.heap.size w w2 := (HB1.out.alloc HB1.out.size _).grown g1 (by simp; exact Nat.le_succ_of_le HB1.out.size) (fun k hk => by cases hk; exact HB1.out.size)
          have B2 := Lib.hid b2
          have O1 := Lib.hid o1
          clear o0 o1 g1 b2
          go_wp2_with fail
          have HD2 := Lib.hid (o1d O1.out)
          have HR := Lib.hid (code_room b r hb (by have := plain_small HP2.out; omega))
          have hn1 : ¬ 9223372036854775807 < b.size + 1 := by omega
          have hn2 : ¬ 9223372036854775807 < b.size + 1 + r.size := by omega
          have L1 : (Instr.lookup 55 (.map (some w1.heap.size)) (.string r) false).run Tryd.prog w2.drew = .ok (.string c) w2.drew := open_look HD2.out (by omega)
          have hp2 := hp.below B2.out
          have hd2 := (hd.below B2.out).drew
          by_cases hcd : c = codeS a b r
          · have heb : (c.toList == (macS a (b ++ ⟨#[124]⟩ ++ r)).toList) = true := str_eqb hcd
            have HQ2 : Hid (q = (r, 0)) := by show _ = _; rw [HQ.out, if_pos hcd]
            clear hcd
            go_region_held3 (fun w' => (Instr.lookup 55 (.map (some w1.heap.size)) (.string r) false).run Tryd.prog w' = .ok (.string c) w')
              (first
                | with_reducible exact L1
                | exact open_look (ownsMap_below HD2.out hb3) (by omega))
              (first
                | (go_at_call 26; refine (mac_any a _ _ hd2 hp2 (by omega) HR.out).mono ?_; rintro e w3 ⟨rfl, hb3⟩))
            all_goals
              have HB3 := Lib.hid (bthen B2.out.drew hb3)
              have HO3 := Lib.hid (ownsMap_below HD2.out hb3)
              clear L1 hn1 hn2 hp2 hd2 hb3
              obtain ⟨w4, r4, o4, t4⟩ := HO3.out.drop keyStr Tryd.underlying55 (key := .string r) (keyOf_string_mk Tryd.underlying9 (by unfold maxLen; omega)) 0
              have hlen := o4.len Tryd.underlying55 3
              rw [size_none] at hlen
              have B4 := Lib.hid (HB3.out.grown t4.grown HB3.out.size (fun k hk => by cases hk; exact HB1.out.size))
              clear o4 t4
              go_wp2_with fail
              go_ret2
              exact ⟨ret_se (congrArg Prod.fst HQ2.out.symm) (congrArg Prod.snd HQ2.out.symm), B4.out⟩
          · have heb : (c.toList == (macS a (b ++ ⟨#[124]⟩ ++ r)).toList) = false := str_ne hcd
            have HQ2 : Hid (q = (⟨#[]⟩, 20)) := by show _ = _; rw [HQ.out, if_neg hcd]
            clear hcd
            go_region_held3 (fun w' => (Instr.lookup 55 (.map (some w1.heap.size)) (.string r) false).run Tryd.prog w' = .ok (.string c) w')
              (first
                | with_reducible exact L1
                | exact open_look (ownsMap_below HD2.out hb3) (by omega))
              (first
                | (go_at_call 26; refine (mac_any a _ _ hd2 hp2 (by omega) HR.out).mono ?_; rintro e w3 ⟨rfl, hb3⟩))
            all_goals
              have HB3 := Lib.hid (bthen B2.out.drew hb3)
              have HO3 := Lib.hid (ownsMap_below HD2.out hb3)
              clear L1 hn1 hn2 hp2 hd2 hb3
              have hlen := HO3.out.len Tryd.underlying55 3
              rw [size_one] at hlen
              go_wp2_with fail
              go_ret2
              exact ⟨ret_se (congrArg Prod.fst HQ2.out.symm) (congrArg Prod.snd HQ2.out.symm), HB3.out⟩
end Go.Proofs.YtfiogpoofpajcaaDoor
