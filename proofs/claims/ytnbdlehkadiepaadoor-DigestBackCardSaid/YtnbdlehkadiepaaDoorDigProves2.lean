/- digest.Proves computes provesS. -/
import Derived.Test.YtnbdlehkadiepaaDoorDigProves
namespace Go.Proofs.YtnbdlehkadiepaaDoor
open Go.RowKit

/-- The way from a leaf's digest to the root's. -/
def walkF : Nat → ByteArray → Nat → Nat → List ByteArray → Option ByteArray
  | 0, h, _, _, p => if p = [] then some h else none
  | f + 1, h, i, n, p =>
    if n ≤ 1 then (if p = [] then some h else none)
    else if i % 2 = 1 ∨ i + 1 < n then
      match p with
      | [] => none
      | a :: r => walkF f (if i % 2 = 0 then nodeS h a else nodeS a h) (i / 2) (n / 2 + n % 2) r
    else walkF f h (i / 2) (n / 2 + n % 2) p
def provesIn (i n : Int) : Bool := decide (0 ≤ i ∧ i < n)
def provesS (root s : ByteArray) (i n : Int) (p : List ByteArray) : Bool := provesIn i n && decide (walkF n.toNat (leafS s) i.toNat n.toNat p = some root)
theorem walkF_end (f : Nat) (h : ByteArray) (i n : Nat) (p : List ByteArray) (hn : n ≤ 1) : walkF f h i n p = if p = [] then some h else none := by
  cases f with
  | zero => rfl
  | succ f => unfold walkF; rw [if_pos hn]
theorem walkF_lone (f : Nat) (h : ByteArray) (i n : Nat) (p : List ByteArray) (hn : 1 < n) (hf : n ≤ f) (hi : i % 2 = 0) (hl : ¬ i + 1 < n) : ∃ f', n / 2 + n % 2 ≤ f' ∧ walkF f h i n p = walkF f' h (i / 2) (n / 2 + n % 2) p := by
  cases f with
  | zero => omega
  | succ f => exact ⟨f, by omega, by rw [walkF.eq_def]; simp only; rw [if_neg (by omega), if_neg (by omega)]⟩
theorem walkF_none (f : Nat) (h : ByteArray) (i n : Nat) (hn : 1 < n) (hf : n ≤ f) (hi : i % 2 = 1 ∨ i + 1 < n) : walkF f h i n [] = none := by
  cases f with
  | zero => omega
  | succ f => rw [walkF, if_neg (by omega), if_pos hi]
theorem walkF_even (f : Nat) (h : ByteArray) (i n : Nat) (a : ByteArray) (r : List ByteArray) (hn : 1 < n) (hf : n ≤ f) (hi : i % 2 = 0) (hl : i + 1 < n) : ∃ f', n / 2 + n % 2 ≤ f' ∧ walkF f h i n (a :: r) = walkF f' (nodeS h a) (i / 2) (n / 2 + n % 2) r := by
  cases f with
  | zero => omega
  | succ f => exact ⟨f, by omega, by rw [walkF, if_neg (by omega), if_pos (Or.inr hl)]; simp [hi]⟩
theorem walkF_odd (f : Nat) (h : ByteArray) (i n : Nat) (a : ByteArray) (r : List ByteArray) (hn : 1 < n) (hf : n ≤ f) (hi : i % 2 = 1) : ∃ f', n / 2 + n % 2 ≤ f' ∧ walkF f h i n (a :: r) = walkF f' (nodeS a h) (i / 2) (n / 2 + n % 2) r := by
  cases f with
  | zero => omega
  | succ f => exact ⟨f, by omega, by rw [walkF, if_neg (by omega), if_pos (Or.inl hi)]; simp [hi]⟩
theorem xor1_evenB (i : Nat) (h : i < 9223372036854775807) (hi : i % 2 = 0) : bits BinOp.xor IntKind.i64 (i : Int) 1 = (i : Int) + 1 := by
  have h1 : (BitVec.ofInt 64 (i : Int)).toNat = i := by rw [BitVec.ofInt_natCast, BitVec.toNat_ofNat]; exact Nat.mod_eq_of_lt (by omega)
  have h2 : (BitVec.ofInt 64 1).toNat = 1 := by decide
  have h3 : IntKind.i64.wrap ((2 * (i / 2) + (i + 1) % 2 : Nat) : Int) = ((2 * (i / 2) + (i + 1) % 2 : Nat) : Int) := IntWalk.i64_in _ (by omega)
  show IntKind.i64.wrap ((BitVec.ofInt 64 (i : Int) ^^^ BitVec.ofInt 64 1).toNat : Int) = _
  rw [BitVec.toNat_xor, h1, h2, xor1_nat, h3]
  omega
theorem xor1_oddB (j : Nat) (h : j < 9223372036854775806) (hj : j % 2 = 0) : bits BinOp.xor IntKind.i64 ((j : Int) + 1) 1 = (j : Int) := by
  have h0 : ((j : Int) + 1) = ((j + 1 : Nat) : Int) := by omega
  have h1 : (BitVec.ofInt 64 ((j + 1 : Nat) : Int)).toNat = j + 1 := by rw [BitVec.ofInt_natCast, BitVec.toNat_ofNat]; exact Nat.mod_eq_of_lt (by omega)
  have h2 : (BitVec.ofInt 64 1).toNat = 1 := by decide
  have h3 : IntKind.i64.wrap ((2 * ((j + 1) / 2) + (j + 1 + 1) % 2 : Nat) : Int) = ((2 * ((j + 1) / 2) + (j + 1 + 1) % 2 : Nat) : Int) := IntWalk.i64_in _ (by omega)
  rw [h0]
  show IntKind.i64.wrap ((BitVec.ofInt 64 ((j + 1 : Nat) : Int) ^^^ BitVec.ofInt 64 1).toNat : Int) = _
  rw [BitVec.toNat_xor, h1, h2, xor1_nat, h3]
  omega
/-- path[1:]. -/
theorem Strs.tail {w : World} {b o : Nat} {a : ByteArray} {r : List ByteArray} (h : Strs w (some ⟨b, o, none⟩) (a :: r)) : Strs w (some ⟨b, o + 1, none⟩) r := by
  intro i hi
  obtain ⟨b', o', e, hc⟩ := h (i + 1) (by simpa using hi)
  injection e with e; injection e with e1 e2
  subst e1; subst e2
  exact ⟨b, o + 1, rfl, by rw [show o + 1 + i = o + (i + 1) by omega]; simpa using hc⟩

theorem Strs.cut {w : World} {b o c : Nat} {a : ByteArray} {r : List ByteArray} (h : Strs w (some ⟨b, o, none⟩) (a :: r)) (hc : (a :: r).length ≤ c) :
    Strs w (if c = 1 then some ⟨b, o, none⟩ else some ⟨b, o + 1, none⟩) r := by
  by_cases e : c = 1
  · have : r = [] := List.eq_nil_of_length_eq_zero (by simp at hc; omega)
    subst this
    exact Strs.nil_ _ _
  · rw [if_neg e]; exact h.tail
set_option maxHeartbeats 1600000 in
theorem proves_any (root s : ByteArray) (i n : Int) (p : List ByteArray) (A : Option Addr) (c : Nat) (w : World) (hd : DigOk w) (hS : Strs w A p) (hc : p.length ≤ c) (hl : p.length ≤ 1000000) (hz : ∀ s ∈ p, s.size ≤ 1000000) (hs : s.size ≤ 1000000) (hn : n ≤ 9223372036854775807) :
    Calls Tryd.prog 32 #[.string root, .string s, .int .i64 i, .int .i64 n, .slice A p.length c] w fun e w' => e = .returned (.bool (provesS root s i n p)) ∧ Below w.heap.size w w' := by
  by_cases h0 : 0 ≤ i ∧ i < n
  · have HE : Hid (provesS root s i n p = decide (walkF n.toNat (leafS s) i.toNat n.toNat p = some root)) := by show _ = _; rw [provesS, provesIn, decide_eq_true h0, Bool.true_and]
    obtain ⟨h0, h1⟩ := h0
    obtain ⟨i, rfl⟩ := Int.eq_ofNat_of_zero_le h0
    obtain ⟨n, rfl⟩ := Int.eq_ofNat_of_zero_le (show 0 ≤ n by omega)
    rw [Int.toNat_natCast, Int.toNat_natCast] at HE
    have HR := Lib.hid (leafS_room s hs)
    have ht := Nat.le_of_eq (textS_size (⟨#[48]⟩ ++ s))
    have HZ := Lib.hid hz
    have HS := Lib.hid hS
    have hn' : n ≤ 9223372036854775807 := by omega
    have h1' : i < n := by omega
    clear hz hn h0 h1
    go_enter Tryd.func32, Tryd.ntmps32
    go_wp2_with (go_at_call 16; refine (text_any _ _ hd HR.out).mono ?_; rintro e w1 ⟨rfl, hb1⟩)
    clear hS
    go_loopw [2, 3, 4, 11] (fun iv nv pv hv wr => ∃ (j m : Nat) (h : ByteArray) (r : List ByteArray) (A2 : Option Addr) (c2 f : Nat), iv = .int .i64 (j : Int) ∧ nv = .int .i64 (m : Int) ∧ hv = .string h ∧ pv = .slice A2 r.length c2 ∧ j < m ∧ m ≤ 9223372036854775807 ∧ h.size ≤ 16 ∧ Strs wr A2 r ∧ r.length ≤ c2 ∧ r.length ≤ 1000000 ∧ (∀ s ∈ r, s.size ≤ 1000000) ∧ m ≤ f ∧ walkF f h j m r = walkF n (leafS s) i n p ∧ Below w.heap.size w wr) (fun _ nv _ _ _ => (intOf nv).toNat)
    case atStart => exact ⟨i, n, _, p, A, c, n, rfl, rfl, rfl, rfl, h1', hn', ht, HS.out.below hb1, hc, hl, HZ.out, Nat.le_refl _, rfl, hb1⟩
    case round =>
      obtain ⟨j, m, h, r, A2, c2, f, rfl, rfl, rfl, rfl, hjm, hm, hh, hS2, hc2, hl2, hz2, hf2, hw2, hbr⟩ := hrel
      clear hc hl hn' h1' ht
      by_cases hlt : 1 < m
      · by_cases hpar : j % 2 = 0
        · have hpb : ((j : Int) % 2 == 0) = true := by rw [beq_iff_eq]; omega
          by_cases hsib : j + 1 < m
          · have HX := Lib.hid (xor1_evenB j (by omega) hpar)
            have hx := HX.out
            cases r with
            | nil =>
              have HF : Hid (decide (walkF n (leafS s) i n p = some root) = false) := by show _ = _; rw [← hw2, walkF_none f h j m hlt hf2 (Or.inr hsib)]; rfl
              clear hw2 hz2 hpar
              go_wp2
              go_ret
              exact ⟨ret_bool (by rw [HE.out, HF.out]), hbr⟩
            | cons a r =>
              obtain ⟨f', hf', hw'⟩ := walkF_even f h j m a r hlt hf2 hpar hsib
              have HW : Hid (walkF f' (nodeS h a) (j / 2) (m / 2 + m % 2) r = walkF n (leafS s) i n p) := by show _ = _; rw [← hw', hw2]
              obtain ⟨b, o, rfl, hca⟩ := hS2 0 (by simp)
              rw [Nat.add_zero] at hca
              have hca' : wr.cell? ⟨b, o, none⟩ = some (.string a) := hca
              have hsa : a.size ≤ 1000000 := hz2 a (by simp)
              have HR2 := Lib.hid (nodeS_room h a (by omega) hsa)
              have hd2 := hd.below hbr
              clear hw2 hw' hpar hca
              go_wp2_with (go_at_call 16; refine (text_any _ _ hd2 HR2.out).mono ?_; rintro e w2 ⟨rfl, hb2⟩)
              have HC := Lib.hid ((hS2.below hb2).cut hc2)
              have HT : Hid ((textS (⟨#[49]⟩ ++ h ++ a)).size ≤ 16) := Nat.le_of_eq (textS_size _)
              go_roundw
              case rel => exact ⟨j / 2, m / 2 + m % 2, _, r, _, c2 - 1, f', by go_num, by go_num, rfl, rfl, by omega, by omega, HT.out, HC.out, by simp at hc2; omega, by simp at hl2; omega, fun s hs => hz2 s (by simp [hs]), hf', HW.out, bthen hbr hb2⟩
              case measure => simp [intOf]; omega
          · obtain ⟨f', hf', hw'⟩ := walkF_lone f h j m r hlt hf2 hpar hsib
            have HW : Hid (walkF f' h (j / 2) (m / 2 + m % 2) r = walkF n (leafS s) i n p) := by show _ = _; rw [← hw', hw2]
            have HX := Lib.hid (xor1_evenB j (by omega) hpar)
            have hx := HX.out
            have HZ2 := Lib.hid hz2
            clear hw2 hw' hpar hz2
            go_wp2
            go_roundw
            case rel => exact ⟨j / 2, m / 2 + m % 2, _, r, _, c2, f', by go_num, by go_num, rfl, rfl, by omega, by omega, hh, hS2, hc2, hl2, HZ2.out, hf', HW.out, hbr⟩
            case measure => simp [intOf]; omega
        · obtain ⟨q, rfl⟩ : ∃ q, j = q + 1 := ⟨j - 1, by omega⟩
          have hq2 : q % 2 = 0 := by omega
          have hpb : (((q : Int) + 1) % 2 == 0) = false := by rw [beq_eq_false_iff_ne]; omega
          have HX := Lib.hid (xor1_oddB q (by omega) hq2)
          have hx := HX.out
          cases r with
          | nil =>
            have HF : Hid (decide (walkF n (leafS s) i n p = some root) = false) := by show _ = _; rw [← hw2, walkF_none f h (q + 1) m hlt hf2 (Or.inl (by omega))]; rfl
            clear hw2 hz2 hpar
            go_wp2
            go_ret
            exact ⟨ret_bool (by rw [HE.out, HF.out]), hbr⟩
          | cons a r =>
            obtain ⟨f', hf', hw'⟩ := walkF_odd f h (q + 1) m a r hlt hf2 (by omega)
            have HW : Hid (walkF f' (nodeS a h) ((q + 1) / 2) (m / 2 + m % 2) r = walkF n (leafS s) i n p) := by show _ = _; rw [← hw', hw2]
            obtain ⟨b, o, rfl, hca⟩ := hS2 0 (by simp)
            rw [Nat.add_zero] at hca
            have hca' : wr.cell? ⟨b, o, none⟩ = some (.string a) := hca
            have hsa : a.size ≤ 1000000 := hz2 a (by simp)
            have HR2 := Lib.hid (nodeS_room a h hsa (by omega))
            have hd2 := hd.below hbr
            clear hw2 hw' hpar hca
            go_wp2_with (go_at_call 16; refine (text_any _ _ hd2 HR2.out).mono ?_; rintro e w2 ⟨rfl, hb2⟩)
            have HC := Lib.hid ((hS2.below hb2).cut hc2)
            have HT : Hid ((textS (⟨#[49]⟩ ++ a ++ h)).size ≤ 16) := Nat.le_of_eq (textS_size _)
            go_roundw
            case rel => exact ⟨(q + 1) / 2, m / 2 + m % 2, _, r, _, c2 - 1, f', by go_num, by go_num, rfl, rfl, by omega, by omega, HT.out, HC.out, by simp at hc2; omega, by simp at hl2; omega, fun s hs => hz2 s (by simp [hs]), hf', HW.out, bthen hbr hb2⟩
            case measure => simp [intOf]; omega
      · have hw3 : (if r = [] then some h else none) = walkF n (leafS s) i n p := by rw [← hw2, walkF_end f h j m r (by omega)]
        cases r with
        | cons a r =>
          have HF : Hid (decide (walkF n (leafS s) i n p = some root) = false) := by show _ = _; rw [← hw3]; simp
          have hb0 : ((r.length : Int) + 1 == 0) = false := by rw [beq_eq_false_iff_ne]; omega
          clear hw3 hw2 hz2
          go_wp2
          go_ret
          exact ⟨ret_bool (by rw [HE.out, HF.out]), hbr⟩
        | nil =>
          by_cases he : h = root
          · have HF : Hid (decide (walkF n (leafS s) i n p = some root) = true) := by show _ = _; rw [← hw3]; simp [he]
            subst he
            clear hw3 hw2 hz2
            go_wp2
            go_ret
            exact ⟨ret_bool (by rw [HE.out, HF.out]), hbr⟩
          · have HF : Hid (decide (walkF n (leafS s) i n p = some root) = false) := by show _ = _; rw [← hw3]; simp [he]
            have hq := str_ne he
            clear hw3 hw2 hz2 he
            go_wp2
            go_ret
            exact ⟨ret_bool (by rw [HE.out, HF.out]), hbr⟩
  · have HE : Hid (provesS root s i n p = false) := by show _ = _; rw [provesS, provesIn, decide_eq_false h0, Bool.false_and]
    have hcs : i < 0 ∨ (0 ≤ i ∧ n ≤ i) := by omega
    clear hz hS h0
    rcases hcs with h | ⟨h, h'⟩
    all_goals
      go_enter Tryd.func32, Tryd.ntmps32
      go_wp2
      go_ret
      exact ⟨ret_bool HE.out.symm, Below.refl _ _⟩
end Go.Proofs.YtnbdlehkadiepaaDoor
