/- Joined: DigProves2, DigStrings, DigLaws, AudLog, AudAdd, Errs, CodReadInt, CodRReadInt, CodRSplit. -/
import Derived.Test.YthdpkfddmkijlaaGreatDoorSeg6
import Derived.Test.YthdpkfddmkijlaaGreatDoorSeg1
import Derived.Deep.AppendLies
import Derived.Deep.RegionLaw
import Derived.Laws.RangeAny
import Derived.Lib.AtoiErrMem
import Derived.Lib.ConvBytes
import Derived.Test.YthdpkfddmkijlaaGreatDoorSeg2
import Derived.Test.YthdpkfddmkijlaaGreatDoorSeg3
/- digest.Proves computes provesS. -/
namespace Go.Proofs.YthdpkfddmkijlaaGreatDoor
open Go.RowKit

/-- The way from a leaf's digest to the root's. -/
def walkF : Nat → ByteArray → Nat → Nat → List ByteArray → Option ByteArray
  | 0, h, _, _, p => if p = [] then some h else none
  | f + 1, h, i, n, p =>
    if n ≤ 1 then (if p = [] then some h else none)
    else if i % 2 = 1 ∨ i + 1 < n then
      match p with
      | [] => none
      | a :: r => walkF f (if i % 2 = 0 then nodeS h a else nodeS a h) (i / 2) (n / 2 + n % 2) r
    else walkF f h (i / 2) (n / 2 + n % 2) p
def provesIn (i n : Int) : Bool := decide (0 ≤ i ∧ i < n)
def provesS (root s : ByteArray) (i n : Int) (p : List ByteArray) : Bool := provesIn i n && decide (walkF n.toNat (leafS s) i.toNat n.toNat p = some root)
theorem walkF_end (f : Nat) (h : ByteArray) (i n : Nat) (p : List ByteArray) (hn : n ≤ 1) : walkF f h i n p = if p = [] then some h else none := by
  cases f with
  | zero => rfl
  | succ f => unfold walkF; rw [if_pos hn]
theorem walkF_lone (f : Nat) (h : ByteArray) (i n : Nat) (p : List ByteArray) (hn : 1 < n) (hf : n ≤ f) (hi : i % 2 = 0) (hl : ¬ i + 1 < n) : ∃ f', n / 2 + n % 2 ≤ f' ∧ walkF f h i n p = walkF f' h (i / 2) (n / 2 + n % 2) p := by
  cases f with
  | zero => omega
  | succ f => exact ⟨f, by omega, by rw [walkF.eq_def]; simp only; rw [if_neg (by omega), if_neg (by omega)]⟩
theorem walkF_none (f : Nat) (h : ByteArray) (i n : Nat) (hn : 1 < n) (hf : n ≤ f) (hi : i % 2 = 1 ∨ i + 1 < n) : walkF f h i n [] = none := by
  cases f with
  | zero => omega
  | succ f => rw [walkF, if_neg (by omega), if_pos hi]
theorem walkF_even (f : Nat) (h : ByteArray) (i n : Nat) (a : ByteArray) (r : List ByteArray) (hn : 1 < n) (hf : n ≤ f) (hi : i % 2 = 0) (hl : i + 1 < n) : ∃ f', n / 2 + n % 2 ≤ f' ∧ walkF f h i n (a :: r) = walkF f' (nodeS h a) (i / 2) (n / 2 + n % 2) r := by
  cases f with
  | zero => omega
  | succ f => exact ⟨f, by omega, by rw [walkF, if_neg (by omega), if_pos (Or.inr hl)]; simp [hi]⟩
theorem walkF_odd (f : Nat) (h : ByteArray) (i n : Nat) (a : ByteArray) (r : List ByteArray) (hn : 1 < n) (hf : n ≤ f) (hi : i % 2 = 1) : ∃ f', n / 2 + n % 2 ≤ f' ∧ walkF f h i n (a :: r) = walkF f' (nodeS a h) (i / 2) (n / 2 + n % 2) r := by
  cases f with
  | zero => omega
  | succ f => exact ⟨f, by omega, by rw [walkF, if_neg (by omega), if_pos (Or.inl hi)]; simp [hi]⟩
theorem xor1_evenB (i : Nat) (h : i < 9223372036854775807) (hi : i % 2 = 0) : bits BinOp.xor IntKind.i64 (i : Int) 1 = (i : Int) + 1 := by
  have h1 : (BitVec.ofInt 64 (i : Int)).toNat = i := by rw [BitVec.ofInt_natCast, BitVec.toNat_ofNat]; exact Nat.mod_eq_of_lt (by omega)
  have h2 : (BitVec.ofInt 64 1).toNat = 1 := by decide
  have h3 : IntKind.i64.wrap ((2 * (i / 2) + (i + 1) % 2 : Nat) : Int) = ((2 * (i / 2) + (i + 1) % 2 : Nat) : Int) := IntWalk.i64_in _ (by omega)
  show IntKind.i64.wrap ((BitVec.ofInt 64 (i : Int) ^^^ BitVec.ofInt 64 1).toNat : Int) = _
  rw [BitVec.toNat_xor, h1, h2, xor1_nat, h3]
  omega
theorem xor1_oddB (j : Nat) (h : j < 9223372036854775806) (hj : j % 2 = 0) : bits BinOp.xor IntKind.i64 ((j : Int) + 1) 1 = (j : Int) := by
  have h0 : ((j : Int) + 1) = ((j + 1 : Nat) : Int) := by omega
  have h1 : (BitVec.ofInt 64 ((j + 1 : Nat) : Int)).toNat = j + 1 := by rw [BitVec.ofInt_natCast, BitVec.toNat_ofNat]; exact Nat.mod_eq_of_lt (by omega)
  have h2 : (BitVec.ofInt 64 1).toNat = 1 := by decide
  have h3 : IntKind.i64.wrap ((2 * ((j + 1) / 2) + (j + 1 + 1) % 2 : Nat) : Int) = ((2 * ((j + 1) / 2) + (j + 1 + 1) % 2 : Nat) : Int) := IntWalk.i64_in _ (by omega)
  rw [h0]
  show IntKind.i64.wrap ((BitVec.ofInt 64 ((j + 1 : Nat) : Int) ^^^ BitVec.ofInt 64 1).toNat : Int) = _
  rw [BitVec.toNat_xor, h1, h2, xor1_nat, h3]
  omega
/-- path[1:]. -/
theorem Strs.tail {w : World} {b o : Nat} {a : ByteArray} {r : List ByteArray} (h : Strs w (some ⟨b, o, none⟩) (a :: r)) : Strs w (some ⟨b, o + 1, none⟩) r := by
  intro i hi
  obtain ⟨b', o', e, hc⟩ := h (i + 1) (by simpa using hi)
  injection e with e; injection e with e1 e2
  subst e1; subst e2
  exact ⟨b, o + 1, rfl, by rw [show o + 1 + i = o + (i + 1) by omega]; simpa using hc⟩

theorem Strs.cut {w : World} {b o c : Nat} {a : ByteArray} {r : List ByteArray} (h : Strs w (some ⟨b, o, none⟩) (a :: r)) (hc : (a :: r).length ≤ c) :
    Strs w (if c = 1 then some ⟨b, o, none⟩ else some ⟨b, o + 1, none⟩) r := by
  by_cases e : c = 1
  · have : r = [] := List.eq_nil_of_length_eq_zero (by simp at hc; omega)
    subst this
    exact Strs.nil_ _ _
  · rw [if_neg e]; exact h.tail
set_option maxHeartbeats 1600000 in
set_option maxRecDepth 100000 in
theorem proves_any (root s : ByteArray) (i n : Int) (p : List ByteArray) (A : Option Addr) (c : Nat) (w : World) (hd : DigOk w) (hS : Strs w A p) (hc : p.length ≤ c) (hl : p.length ≤ 1000000) (hz : ∀ s ∈ p, s.size ≤ 1000000) (hs : s.size ≤ 1000000) (hn : n ≤ 9223372036854775807) :
    Calls Tryz.prog 42 #[.string root, .string s, .int .i64 i, .int .i64 n, .slice A p.length c] w fun e w' => e = .returned (.bool (provesS root s i n p)) ∧ Below w.heap.size w w' := by
  by_cases h0 : 0 ≤ i ∧ i < n
  · have HE : Hid (provesS root s i n p = decide (walkF n.toNat (leafS s) i.toNat n.toNat p = some root)) := by show _ = _; rw [provesS, provesIn, decide_eq_true h0, Bool.true_and]
    obtain ⟨h0, h1⟩ := h0
    obtain ⟨i, rfl⟩ := Int.eq_ofNat_of_zero_le h0
    obtain ⟨n, rfl⟩ := Int.eq_ofNat_of_zero_le (show 0 ≤ n by omega)
    rw [Int.toNat_natCast, Int.toNat_natCast] at HE
    have HR := Lib.hid (leafS_room s hs)
    have ht := Nat.le_of_eq (textS_size (⟨#[48]⟩ ++ s))
    have HZ := Lib.hid hz
    have HS := Lib.hid hS
    have hn' : n ≤ 9223372036854775807 := by omega
    have h1' : i < n := by omega
    clear hz hn h0 h1
    go_enter Tryz.func42, Tryz.ntmps42
    go_wp2_with (go_at_call 39; refine (text_any _ _ hd HR.out).mono ?_; rintro e w1 ⟨rfl, hb1⟩)
    clear hS
    go_loopw [2, 3, 4, 11] (fun iv nv pv hv wr => ∃ (j m : Nat) (h : ByteArray) (r : List ByteArray) (A2 : Option Addr) (c2 f : Nat), iv = .int .i64 (j : Int) ∧ nv = .int .i64 (m : Int) ∧ hv = .string h ∧ pv = .slice A2 r.length c2 ∧ j < m ∧ m ≤ 9223372036854775807 ∧ h.size ≤ 16 ∧ Strs wr A2 r ∧ r.length ≤ c2 ∧ r.length ≤ 1000000 ∧ (∀ s ∈ r, s.size ≤ 1000000) ∧ m ≤ f ∧ walkF f h j m r = walkF n (leafS s) i n p ∧ Below w.heap.size w wr) (fun _ nv _ _ _ => (intOf nv).toNat)
    case atStart => exact ⟨i, n, _, p, A, c, n, rfl, rfl, rfl, rfl, h1', hn', ht, HS.out.below hb1, hc, hl, HZ.out, Nat.le_refl _, rfl, hb1⟩
    case round =>
      obtain ⟨j, m, h, r, A2, c2, f, rfl, rfl, rfl, rfl, hjm, hm, hh, hS2, hc2, hl2, hz2, hf2, hw2, hbr⟩ := hrel
      clear hc hl hn' h1' ht
      by_cases hlt : 1 < m
      · by_cases hpar : j % 2 = 0
        · have hpb : ((j : Int) % 2 == 0) = true := by rw [beq_iff_eq]; omega
          by_cases hsib : j + 1 < m
          · have HX := Lib.hid (xor1_evenB j (by omega) hpar)
            have hx := HX.out
            cases r with
            | nil =>
              have HF : Hid (decide (walkF n (leafS s) i n p = some root) = false) := by show _ = _; rw [← hw2, walkF_none f h j m hlt hf2 (Or.inr hsib)]; rfl
              clear hw2 hz2 hpar
              go_wp2
              go_ret
              exact ⟨ret_bool (by rw [HE.out, HF.out]), hbr⟩
            | cons a r =>
              obtain ⟨f', hf', hw'⟩ := walkF_even f h j m a r hlt hf2 hpar hsib
              have HW : Hid (walkF f' (nodeS h a) (j / 2) (m / 2 + m % 2) r = walkF n (leafS s) i n p) := by show _ = _; rw [← hw', hw2]
              obtain ⟨b, o, rfl, hca⟩ := hS2 0 (by simp)
              rw [Nat.add_zero] at hca
              have hca' : wr.cell? ⟨b, o, none⟩ = some (.string a) := hca
              have hsa : a.size ≤ 1000000 := hz2 a (by simp)
              have HR2 := Lib.hid (nodeS_room h a (by omega) hsa)
              have hd2 := hd.below hbr
              clear hw2 hw' hpar hca
              go_wp2_with (go_at_call 39; refine (text_any _ _ hd2 HR2.out).mono ?_; rintro e w2 ⟨rfl, hb2⟩)
              have HC := Lib.hid ((hS2.below hb2).cut hc2)
              have HT : Hid ((textS (⟨#[49]⟩ ++ h ++ a)).size ≤ 16) := Nat.le_of_eq (textS_size _)
              go_roundw
              case rel => exact ⟨j / 2, m / 2 + m % 2, _, r, _, c2 - 1, f', by go_num, by go_num, rfl, rfl, by omega, by omega, HT.out, HC.out, by simp at hc2; omega, by simp at hl2; omega, fun s hs => hz2 s (by simp [hs]), hf', HW.out, bthen hbr hb2⟩
              case measure => simp [intOf]; omega
          · obtain ⟨f', hf', hw'⟩ := walkF_lone f h j m r hlt hf2 hpar hsib
            have HW : Hid (walkF f' h (j / 2) (m / 2 + m % 2) r = walkF n (leafS s) i n p) := by show _ = _; rw [← hw', hw2]
            have HX := Lib.hid (xor1_evenB j (by omega) hpar)
            have hx := HX.out
            have HZ2 := Lib.hid hz2
            clear hw2 hw' hpar hz2
            go_wp2
            go_roundw
            case rel => exact ⟨j / 2, m / 2 + m % 2, _, r, _, c2, f', by go_num, by go_num, rfl, rfl, by omega, by omega, hh, hS2, hc2, hl2, HZ2.out, hf', HW.out, hbr⟩
            case measure => simp [intOf]; omega
        · obtain ⟨q, rfl⟩ : ∃ q, j = q + 1 := ⟨j - 1, by omega⟩
          have hq2 : q % 2 = 0 := by omega
          have hpb : (((q : Int) + 1) % 2 == 0) = false := by rw [beq_eq_false_iff_ne]; omega
          have HX := Lib.hid (xor1_oddB q (by omega) hq2)
          have hx := HX.out
          cases r with
          | nil =>
            have HF : Hid (decide (walkF n (leafS s) i n p = some root) = false) := by show _ = _; rw [← hw2, walkF_none f h (q + 1) m hlt hf2 (Or.inl (by omega))]; rfl
            clear hw2 hz2 hpar
            go_wp2
            go_ret
            exact ⟨ret_bool (by rw [HE.out, HF.out]), hbr⟩
          | cons a r =>
            obtain ⟨f', hf', hw'⟩ := walkF_odd f h (q + 1) m a r hlt hf2 (by omega)
            have HW : Hid (walkF f' (nodeS a h) ((q + 1) / 2) (m / 2 + m % 2) r = walkF n (leafS s) i n p) := by show _ = _; rw [← hw', hw2]
            obtain ⟨b, o, rfl, hca⟩ := hS2 0 (by simp)
            rw [Nat.add_zero] at hca
            have hca' : wr.cell? ⟨b, o, none⟩ = some (.string a) := hca
            have hsa : a.size ≤ 1000000 := hz2 a (by simp)
            have HR2 := Lib.hid (nodeS_room a h hsa (by omega))
            have hd2 := hd.below hbr
            clear hw2 hw' hpar hca
            go_wp2_with (go_at_call 39; refine (text_any _ _ hd2 HR2.out).mono ?_; rintro e w2 ⟨rfl, hb2⟩)
            have HC := Lib.hid ((hS2.below hb2).cut hc2)
            have HT : Hid ((textS (⟨#[49]⟩ ++ a ++ h)).size ≤ 16) := Nat.le_of_eq (textS_size _)
            go_roundw
            case rel => exact ⟨(q + 1) / 2, m / 2 + m % 2, _, r, _, c2 - 1, f', by go_num, by go_num, rfl, rfl, by omega, by omega, HT.out, HC.out, by simp at hc2; omega, by simp at hl2; omega, fun s hs => hz2 s (by simp [hs]), hf', HW.out, bthen hbr hb2⟩
            case measure => simp [intOf]; omega
      · have hw3 : (if r = [] then some h else none) = walkF n (leafS s) i n p := by rw [← hw2, walkF_end f h j m r (by omega)]
        cases r with
        | cons a r =>
          have HF : Hid (decide (walkF n (leafS s) i n p = some root) = false) := by show _ = _; rw [← hw3]; simp
          have hb0 : ((r.length : Int) + 1 == 0) = false := by rw [beq_eq_false_iff_ne]; omega
          clear hw3 hw2 hz2
          go_wp2
          go_ret
          exact ⟨ret_bool (by rw [HE.out, HF.out]), hbr⟩
        | nil =>
          by_cases he : h = root
          · have HF : Hid (decide (walkF n (leafS s) i n p = some root) = true) := by show _ = _; rw [← hw3]; simp [he]
            subst he
            clear hw3 hw2 hz2
            go_wp2
            go_ret
            exact ⟨ret_bool (by rw [HE.out, HF.out]), hbr⟩
          · have HF : Hid (decide (walkF n (leafS s) i n p = some root) = false) := by show _ = _; rw [← hw3]; simp [he]
            have hq := str_ne he
            clear hw3 hw2 hz2 he
            go_wp2
            go_ret
            exact ⟨ret_bool (by rw [HE.out, HF.out]), hbr⟩
  · have HE : Hid (provesS root s i n p = false) := by show _ = _; rw [provesS, provesIn, decide_eq_false h0, Bool.false_and]
    have hcs : i < 0 ∨ (0 ≤ i ∧ n ≤ i) := by omega
    clear hz hS h0
    rcases hcs with h | ⟨h, h'⟩
    all_goals
      go_enter Tryz.func42, Tryz.ntmps42
      go_wp2
      go_ret
      exact ⟨ret_bool HE.out.symm, Below.refl _ _⟩
end Go.Proofs.YthdpkfddmkijlaaGreatDoor

/- identityref03.Strings and Proves. -/
namespace Go.Proofs.YthdpkfddmkijlaaGreatDoor
open Go.RowKit

/-- The strings that are digested on the way, behind the leaf's, and what is left of the path. -/
def tailF : Nat → ByteArray → Nat → Nat → List ByteArray → Option (List ByteArray × List ByteArray)
  | 0, _, _, _, p => some ([], p)
  | f + 1, h, i, n, p =>
    if n ≤ 1 then some ([], p)
    else if i % 2 = 1 ∨ i + 1 < n then
      match p with
      | [] => none
      | a :: r => (tailF f (textS (if i % 2 = 1 then oneS ++ a ++ h else oneS ++ h ++ a)) (i / 2) (n / 2 + n % 2) r).map fun x => ((if i % 2 = 1 then oneS ++ a ++ h else oneS ++ h ++ a) :: x.1, x.2)
    else tailF f h (i / 2) (n / 2 + n % 2) p
/-- identityref03.Strings. -/
def stringsO (s : ByteArray) (i n : Int) (p : List ByteArray) : Option (List ByteArray × List ByteArray) :=
  if provesIn i n then (tailF n.toNat (leafS s) i.toNat n.toNat p).map fun x => ((zeroS ++ s) :: x.1, x.2) else none
def stringsL (s : ByteArray) (i n : Int) (p : List ByteArray) : List ByteArray := match stringsO s i n p with | none => [] | some x => x.1
def stringsB (s : ByteArray) (i n : Int) (p : List ByteArray) : Bool := match stringsO s i n p with | none => false | some x => decide (x.2 = [])
theorem tailF_end (f : Nat) (h : ByteArray) (i n : Nat) (p : List ByteArray) (hn : n ≤ 1) : tailF f h i n p = some ([], p) := by
  cases f with
  | zero => rfl
  | succ f => unfold tailF; rw [if_pos hn]
theorem tailF_lone (f : Nat) (h : ByteArray) (i n : Nat) (p : List ByteArray) (hn : 1 < n) (hf : n ≤ f) (hi : i % 2 = 0) (hl : ¬ i + 1 < n) : ∃ f', n / 2 + n % 2 ≤ f' ∧ tailF f h i n p = tailF f' h (i / 2) (n / 2 + n % 2) p := by
  cases f with
  | zero => omega
  | succ f => exact ⟨f, by omega, by rw [tailF.eq_def]; simp only; rw [if_neg (by omega), if_neg (by omega)]⟩
theorem tailF_none (f : Nat) (h : ByteArray) (i n : Nat) (hn : 1 < n) (hf : n ≤ f) (hi : i % 2 = 1 ∨ i + 1 < n) : tailF f h i n [] = none := by
  cases f with
  | zero => omega
  | succ f => rw [tailF, if_neg (by omega), if_pos hi]
theorem tailF_odd (f : Nat) (h : ByteArray) (i n : Nat) (a : ByteArray) (r : List ByteArray) (hn : 1 < n) (hf : n ≤ f) (hi : i % 2 = 1) : ∃ f', n / 2 + n % 2 ≤ f' ∧ tailF f h i n (a :: r) = (tailF f' (textS (oneS ++ a ++ h)) (i / 2) (n / 2 + n % 2) r).map fun x => ((oneS ++ a ++ h) :: x.1, x.2) := by
  cases f with
  | zero => omega
  | succ f => exact ⟨f, by omega, by rw [tailF, if_neg (by omega), if_pos (Or.inl hi)]; simp [hi]⟩
theorem tailF_even (f : Nat) (h : ByteArray) (i n : Nat) (a : ByteArray) (r : List ByteArray) (hn : 1 < n) (hf : n ≤ f) (hi : i % 2 = 0) (hl : i + 1 < n) : ∃ f', n / 2 + n % 2 ≤ f' ∧ tailF f h i n (a :: r) = (tailF f' (textS (oneS ++ h ++ a)) (i / 2) (n / 2 + n % 2) r).map fun x => ((oneS ++ h ++ a) :: x.1, x.2) := by
  cases f with
  | zero => omega
  | succ f => exact ⟨f, by omega, by rw [tailF, if_neg (by omega), if_pos (Or.inr hl)]; simp [hi]⟩
/-- Both ways of looking at a path agree. -/
theorem walk_tail (f : Nat) : ∀ (t : ByteArray) (i n : Nat) (p : List ByteArray), walkF f (textS t) i n p = (tailF f (textS t) i n p).bind fun x => if x.2 = [] then some (textS ((t :: x.1).getLast (by simp))) else none := by
  induction f with
  | zero => intro t i n p; simp [walkF, tailF]
  | succ f ih =>
    intro t i n p
    by_cases hn : n ≤ 1
    · rw [walkF_end _ _ _ _ _ hn, tailF_end _ _ _ _ _ hn]; simp
    · by_cases hs : i % 2 = 1 ∨ i + 1 < n
      · cases p with
        | nil => rw [walkF, if_neg hn, if_pos hs, tailF, if_neg hn, if_pos hs]; rfl
        | cons a r =>
          rw [walkF, if_neg hn, if_pos hs, tailF, if_neg hn, if_pos hs]
          by_cases hi : i % 2 = 1
          · simp only [if_pos hi, if_neg (show ¬ i % 2 = 0 by omega), nodeS]
            rw [ih]
            cases tailF f (textS (oneS ++ a ++ textS t)) (i / 2) (n / 2 + n % 2) r <;> simp
          · simp only [if_neg hi, if_pos (show i % 2 = 0 by omega), nodeS]
            rw [ih]
            cases tailF f (textS (oneS ++ textS t ++ a)) (i / 2) (n / 2 + n % 2) r <;> simp
      · rw [walkF.eq_def, tailF.eq_def]
        simp only [if_neg hn, if_neg hs]
        exact ih t (i / 2) (n / 2 + n % 2) p
theorem getLast_getD (a : ByteArray) : ∀ (l : List ByteArray), (a :: l).getLast (List.cons_ne_nil a l) = l.getLast?.getD a
  | [] => rfl
  | b :: l => by
    rw [List.getLast_cons (List.cons_ne_nil b l), getLast_getD b l, List.getLast?_cons]
    rfl
theorem proves_strings (root s : ByteArray) (i n : Int) (p : List ByteArray) : provesS root s i n p = match stringsO s i n p with | none => false | some x => decide (x.2 = [] ∧ textS (x.1.getLast?.getD ByteArray.empty) = root) := by
  unfold provesS stringsO
  cases hin : provesIn i n with
  | false => simp
  | true =>
    rw [if_pos rfl, Bool.true_and]
    have := walk_tail n.toNat (zeroS ++ s) i.toNat n.toNat p
    rw [show textS (zeroS ++ s) = leafS s from rfl] at this
    rw [this]
    cases tailF n.toNat (leafS s) i.toNat n.toNat p with
    | none => simp
    | some x =>
      by_cases hx : x.2 = []
      · have e : (((zeroS ++ s) :: x.1).getLast?.getD ByteArray.empty) = x.1.getLast?.getD (zeroS ++ s) := by
          rw [List.getLast?_cons]; rfl
        simp only [Option.bind_some, Option.map_some, hx, true_and, if_true, Option.some.injEq, e, getLast_getD]
      · simp [hx]

theorem tail_step {T : ByteArray} {O : List ByteArray} (o : Option (List ByteArray × List ByteArray)) : (o.map fun x => (T :: x.1, x.2)).map (fun x => (O ++ x.1, x.2)) = o.map fun x => ((O ++ [T]) ++ x.1, x.2) := by
  cases o <;> simp
theorem strs_len {P : List ByteArray} {x : ByteArray} {n : Nat} (h : P.length ≤ n) : (P ++ [x]).length ≤ n + 1 := by simp; omega
/-- What identityref03.Strings hands back. -/
def RetStrsB (w' : World) (e : Ending) (l : List ByteArray) (ok : Bool) : Prop := ∃ A cap, e = .returned (.tuple #[.slice A l.length cap, .bool ok]) ∧ Strs w' A l
theorem RetStrsB.own {w : World} {base e n : Nat} {v : Value} {xs : List Value} {l : List ByteArray} {ok : Bool} (h : w.ownsRow base e 1 v n xs) (hn : l.length = n)
    (hx : ∀ j, (h : j < l.length) → xs[j]? = some (.string l[j])) : RetStrsB w (.returned (.tuple #[v, .bool ok])) l ok := by
  obtain ⟨A, cap, hv, h1, h2⟩ := RetStrs.own h hn hx
  injection hv with hv
  subst hv
  exact ⟨A, cap, rfl, h1⟩

end Go.Proofs.YthdpkfddmkijlaaGreatDoor

/- Plain laws of the hash tree: the path of an element proves it; what is proved is the element, or two strings have one digest. -/
namespace Go.Proofs.YthdpkfddmkijlaaGreatDoor
open Go.RowKit

theorem upL_at (l : List ByteArray) (k : Nat) (h : k < (upL l).length) : (upL l)[k] = upAt l k := by simp [upL]
theorem walk_path (f : Nat) : ∀ (lv : List ByteArray) (i : Nat) (hi : i < lv.length), lv.length ≤ f → walkF f lv[i] i lv.length (pathF f lv i) = some (rootF f lv) := by
  induction f with
  | zero => intro lv i hi hf; omega
  | succ f ih =>
    intro lv i hi hf
    by_cases hn : lv.length ≤ 1
    · have h1 : lv.length = 1 := by omega
      have hi0 : i = 0 := by omega
      subst hi0
      rw [walkF_end _ _ _ _ _ hn, pathF_end _ _ _ hn, if_pos rfl, rootF_end _ _ h1]
    · have hu : (upL lv).length = lv.length / 2 + lv.length % 2 := by rw [upL_length]; omega
      have hup : i / 2 < (upL lv).length := by omega
      have hrec := ih (upL lv) (i / 2) hup (by omega)
      rw [hu] at hrec
      rw [pathF, if_neg hn, rootF, if_neg hn, ← hrec, upL_at lv (i / 2) hup]
      rw [walkF.eq_def]
      simp only [if_neg hn]
      by_cases hodd : i % 2 = 1
      · obtain ⟨q, rfl⟩ : ∃ q, i = q + 1 := ⟨i - 1, by omega⟩
        rw [if_pos (Or.inl hodd), sibL_odd lv q (by omega) (by omega)]
        simp only [List.cons_append, List.nil_append, if_neg (show ¬ (q + 1) % 2 = 0 by omega)]
        have e : 2 * ((q + 1) / 2) = q := by omega
        rw [upAt, dif_pos (by omega)]
        simp only [e]
      · by_cases hs : i + 1 < lv.length
        · rw [if_pos (Or.inr hs), sibL_even lv i (by omega) hs]
          simp only [List.cons_append, List.nil_append, if_pos (show i % 2 = 0 by omega)]
          have e : 2 * (i / 2) = i := by omega
          rw [upAt, dif_pos (by omega)]
          simp only [e]
        · rw [if_neg (by omega), sibL_lone lv i (by omega) hs]
          have e : 2 * (i / 2) = i := by omega
          rw [List.nil_append, upAt, dif_neg (by omega), e, List.getD_eq_getElem?_getD, List.getElem?_eq_getElem hi, Option.getD_some]
theorem leavesL_at (l : List ByteArray) (i : Nat) (h : i < l.length) : (leavesL l)[i]'(by rw [leavesL_length]; exact h) = leafS l[i] := by simp [leavesL]
theorem proven (l : List ByteArray) (i : Nat) (h : i < l.length) : provesS (rootS l) l[i] (i : Int) (l.length : Int) (pathS l (i : Int)) = true := by
  have h1 : pathIn l (i : Int) = true := by simp [pathIn, h]
  have h2 : provesIn (i : Int) (l.length : Int) = true := by simp [provesIn, h]
  have h3 := walk_path l.length (leavesL l) i (by rw [leavesL_length]; exact h) (by rw [leavesL_length]; exact Nat.le_refl _)
  rw [leavesL_at l i h, leavesL_length] at h3
  rw [provesS, h2, Bool.true_and, pathS, h1, if_pos rfl, Int.toNat_natCast, Int.toNat_natCast, rootS, if_neg (by omega), h3]
  simp

/-- At some place the two lists have different strings with one digest. -/
def Collide (a b : List ByteArray) : Prop := ∃ (k : Nat) (x y : ByteArray), a[k]? = some x ∧ b[k]? = some y ∧ x ≠ y ∧ textS x = textS y
theorem Collide.cons {a b : List ByteArray} (x y : ByteArray) (h : Collide a b) : Collide (x :: a) (y :: b) := by
  obtain ⟨k, u, v, h1, h2, h3⟩ := h
  exact ⟨k + 1, u, v, by simpa using h1, by simpa using h2, h3⟩
theorem Collide.head {a b : List ByteArray} {x y : ByteArray} (h1 : x ≠ y) (h2 : textS x = textS y) : Collide (x :: a) (y :: b) := ⟨0, x, y, rfl, rfl, h1, h2⟩
theorem app_left {a b h h' : ByteArray} (hs : h.size = h'.size) (e : oneS ++ h ++ a = oneS ++ h' ++ b) : h = h' := by
  have e1 := congrArg (fun x : ByteArray => x.data.toList) e
  simp only [ByteArray.data_append, Array.toList_append, List.append_assoc] at e1
  have e2 := List.append_cancel_left e1
  have := List.append_inj_left e2 (by simpa using hs)
  exact ByteArray.ext (Array.toList_inj.1 this)
theorem app_right {a b h h' : ByteArray} (hs : h.size = h'.size) (e : oneS ++ a ++ h = oneS ++ b ++ h') : h = h' := by
  have e1 := congrArg (fun x : ByteArray => x.data.toList) e
  simp only [ByteArray.data_append, Array.toList_append, List.append_assoc] at e1
  have e2 := List.append_cancel_left e1
  have := List.append_inj_right' e2 (by simpa using hs)
  exact ByteArray.ext (Array.toList_inj.1 this)
theorem tails_collide (f : Nat) : ∀ (t t' : ByteArray) (i n : Nat) (p p' x x' : List ByteArray), tailF f (textS t) i n p = some (x, []) → tailF f (textS t') i n p' = some (x', []) →
    textS ((t :: x).getLast (by simp)) = textS ((t' :: x').getLast (by simp)) → x.length = x'.length ∧ (Collide (t :: x) (t' :: x') ∨ textS t = textS t') := by
  induction f with
  | zero =>
    intro t t' i n p p' x x' h1 h2 h3
    cases h1; cases h2
    exact ⟨rfl, Or.inr (by simpa using h3)⟩
  | succ f ih =>
    intro t t' i n p p' x x' h1 h2 h3
    by_cases hn : n ≤ 1
    · rw [tailF_end _ _ _ _ _ hn] at h1 h2
      cases h1; cases h2
      exact ⟨rfl, Or.inr (by simpa using h3)⟩
    · by_cases hs : i % 2 = 1 ∨ i + 1 < n
      · cases p with
        | nil => rw [tailF, if_neg hn, if_pos hs] at h1; cases h1
        | cons a r =>
          cases p' with
          | nil => rw [tailF, if_neg hn, if_pos hs] at h2; cases h2
          | cons a' r' =>
            rw [tailF, if_neg hn, if_pos hs] at h1 h2
            simp only [Option.map_eq_some_iff, Prod.mk.injEq] at h1 h2
            obtain ⟨y, hy, rfl, hy2⟩ := h1
            obtain ⟨y', hy', rfl, hy2'⟩ := h2
            obtain ⟨y1, y2⟩ := y
            obtain ⟨y1', y2'⟩ := y'
            simp only at hy2 hy2'
            subst hy2 hy2'
            have hsz : (textS t).size = (textS t').size := by rw [textS_size, textS_size]
            have h3' : textS (((if i % 2 = 1 then oneS ++ a ++ textS t else oneS ++ textS t ++ a) :: y1).getLast (by simp)) = textS (((if i % 2 = 1 then oneS ++ a' ++ textS t' else oneS ++ textS t' ++ a') :: y1').getLast (by simp)) := by
              simp only [List.getLast_cons_cons] at h3
              exact h3
            obtain ⟨hl, hc⟩ := ih _ _ _ _ _ _ _ _ hy hy' h3'
            refine ⟨by simp [hl], ?_⟩
            rcases hc with hc | hc
            · exact Or.inl (hc.cons _ _)
            · by_cases he : (if i % 2 = 1 then oneS ++ a ++ textS t else oneS ++ textS t ++ a) = (if i % 2 = 1 then oneS ++ a' ++ textS t' else oneS ++ textS t' ++ a')
              · right
                by_cases hi : i % 2 = 1
                · rw [if_pos hi, if_pos hi] at he; exact app_right hsz he
                · rw [if_neg hi, if_neg hi] at he; exact app_left hsz he
              · exact Or.inl ((Collide.head he hc).cons _ _)
      · rw [tailF.eq_def] at h1 h2
        simp only [if_neg hn, if_neg hs] at h1 h2
        exact ih _ _ _ _ _ _ _ _ h1 h2 h3
theorem proves_parts {root s : ByteArray} {i n : Int} {p : List ByteArray} (h : provesS root s i n p = true) : ∃ x, tailF n.toNat (leafS s) i.toNat n.toNat p = some (x, []) ∧ stringsO s i n p = some ((zeroS ++ s) :: x, []) ∧ textS (((zeroS ++ s) :: x).getLast (by simp)) = root := by
  rw [proves_strings] at h
  have hin : provesIn i n = true := by
    cases hin : provesIn i n with
    | true => rfl
    | false => simp [stringsO, hin] at h
  cases ht : tailF n.toNat (leafS s) i.toNat n.toNat p with
  | none => simp [stringsO, hin, ht] at h
  | some y =>
    have ho : stringsO s i n p = some ((zeroS ++ s) :: y.1, y.2) := by simp [stringsO, hin, ht]
    rw [ho] at h
    simp only [decide_eq_true_eq] at h
    obtain ⟨h1, h2⟩ := h
    obtain ⟨y1, y2⟩ := y
    simp only at h1
    subst h1
    refine ⟨y1, rfl, ho, ?_⟩
    rw [getLast_getD, ← h2, List.getLast?_cons]
    rfl
theorem app_zero {a b : ByteArray} (e : zeroS ++ a = zeroS ++ b) : a = b := by
  have e1 := congrArg (fun x : ByteArray => x.data.toList) e
  simp only [ByteArray.data_append, Array.toList_append] at e1
  have := List.append_cancel_left e1
  exact ByteArray.ext (Array.toList_inj.1 this)
/-- WHAT IS PROVED FOR A LIST's ROOT IS THE ELEMENT, or two strings on the way have one digest. -/
theorem binds (l : List ByteArray) (s : ByteArray) (i : Nat) (h : i < l.length) (p : List ByteArray) (hp : provesS (rootS l) s (i : Int) (l.length : Int) p = true) (hne : s ≠ l[i]) :
    ∃ a b, stringsO l[i] (i : Int) (l.length : Int) (pathS l (i : Int)) = some (a, []) ∧ stringsO s (i : Int) (l.length : Int) p = some (b, []) ∧ a.length = b.length ∧ Collide a b := by
  obtain ⟨x, t1, o1, r1⟩ := proves_parts (proven l i h)
  obtain ⟨y, t2, o2, r2⟩ := proves_parts hp
  obtain ⟨hl, hc⟩ := tails_collide _ (zeroS ++ l[i]) (zeroS ++ s) _ _ _ _ _ _ t1 t2 (r1.trans r2.symm)
  refine ⟨_, _, o1, o2, by simp [hl], ?_⟩
  rcases hc with hc | hc
  · exact hc
  · exact Collide.head (fun e => hne (app_zero e).symm) hc
theorem pathF_sizes (f : Nat) : ∀ (l : List ByteArray) (i : Nat), (∀ s ∈ l, s.size ≤ 1000000) → ∀ s ∈ pathF f l i, s.size ≤ 1000000 := by
  have he : ByteArray.empty.size ≤ 1000000 := by decide
  have hg : ∀ (l : List ByteArray) (k : Nat), (∀ s ∈ l, s.size ≤ 1000000) → (l.getD k ByteArray.empty).size ≤ 1000000 := by
    intro l k h
    rw [List.getD_eq_getElem?_getD]
    cases e : l[k]? with
    | none => exact he
    | some x => exact h x (List.mem_of_getElem? e)
  induction f with
  | zero => intro l i _ s hs; simp [pathF] at hs
  | succ f ih =>
    intro l i h s hs
    rw [pathF] at hs
    split at hs
    · simp at hs
    · rcases List.mem_append.1 hs with hs | hs
      · unfold sibL at hs
        split at hs
        · simp only [List.mem_singleton] at hs; subst hs; exact hg l _ h
        · split at hs
          · simp only [List.mem_singleton] at hs; subst hs; exact hg l _ h
          · simp at hs
      · exact ih (upL l) (i / 2) (upL_sizes l h) s hs
theorem pathS_sizes (l : List ByteArray) (i : Int) : ∀ s ∈ pathS l i, s.size ≤ 1000000 := by
  intro s hs
  unfold pathS at hs
  split at hs
  · exact pathF_sizes _ _ _ (leavesL_sizes l) s hs
  · simp at hs
end Go.Proofs.YthdpkfddmkijlaaGreatDoor

/- The logs in memory: the program's and the reference's. -/
namespace Go.Proofs.YthdpkfddmkijlaaGreatDoor
open Go.RowKit

/-- The cells of events. -/
def evCs (l : List Ev) : List Value := l.flatMap evC
theorem evCs_len (l : List Ev) : (evCs l).length = l.length * 6 := by
  induction l with
  | nil => rfl
  | cons e l ih => rw [evCs, List.flatMap_cons, List.length_append, List.length_cons, show (l.flatMap evC).length = (evCs l).length from rfl, ih]; simp [evC]; omega
theorem evCs_snoc (l : List Ev) (e : Ev) : evCs l ++ evC e = evCs (l ++ [e]) := by simp [evCs]
theorem evCs_one (l : List Ev) : ∀ u ∈ evCs l, u.oneCell' = true := by
  intro u hu
  rw [evCs, List.mem_flatMap] at hu
  obtain ⟨e, _, h⟩ := hu
  simp only [evC, List.mem_cons, List.not_mem_nil, or_false] at h
  rcases h with rfl | rfl | rfl | rfl | rfl | rfl <;> rfl
theorem evCs_at (l : List Ev) : ∀ i j, (h : i < l.length) → j < 6 → (evCs l)[i * 6 + j]? = (evC l[i])[j]? := by
  induction l with
  | nil => intro i j h; simp at h
  | cons e l ih =>
    intro i j h hj
    have e0 : evCs (e :: l) = evC e ++ evCs l := by simp [evCs]
    have l6 : (evC e).length = 6 := rfl
    cases i with
    | zero =>
      rw [e0, List.getElem?_append_left (by omega)]; simp
    | succ i =>
      rw [e0, List.getElem?_append_right (by omega), l6, show (i + 1) * 6 + j - 6 = i * 6 + j by omega, ih i j (by simpa using h) hj]; rfl
theorem EvsAt.own {w : World} {base g n cap : Nat} {l : List Ev} (h : w.ownsRow base 24 6 (.slice (some ⟨g, 0, none⟩) n cap) n (evCs l)) (hn : n = l.length) : EvsAt w (some ⟨g, 0, none⟩) l := by
  intro i hi
  have hc : ∀ j, j < 6 → w.cell? ⟨g, i * 6 + j, none⟩ = (evC l[i])[j]? := fun j hj => by rw [h.cellAt (i * 6 + j) (by omega), evCs_at l i j hi hj]
  refine ⟨g, 0, rfl, ?_⟩
  rw [Nat.zero_add]
  exact ⟨hc 0 (by omega), hc 1 (by omega), hc 2 (by omega), hc 3 (by omega), hc 4 (by omega), hc 5 (by omega)⟩
theorem EvsAt.nil (w : World) (A : Option Addr) : EvsAt w A [] := fun i h => absurd h (by simp)
theorem evs_row {w : World} {b : Nat} {l : List Ev} (h : EvsAt w (some ⟨b, 0, none⟩) l) : ∀ j u, (evCs l)[j]? = some u → w.cell? ((⟨b, 0, none⟩ : Addr).add j) = some u := by
  intro j u hu
  have hj : j < l.length * 6 := by
    have := (List.getElem?_eq_some_iff.1 hu).1
    rwa [evCs_len] at this
  obtain ⟨i, m, h6, rfl⟩ : ∃ i m, m < 6 ∧ j = i * 6 + m := ⟨j / 6, j % 6, by omega, by omega⟩
  have hi : i < l.length := by omega
  obtain ⟨b', o', e, h0, h1, h2, h3, h4, h5⟩ := h i hi
  injection e with e; injection e with e1 e2
  subst e1; subst e2
  rw [addr_add, ← hu, evCs_at l i m hi h6]
  rw [Nat.zero_add] at h0 h1 h2 h3 h4 h5
  match m, h6 with
  | 0, _ => exact h0
  | 1, _ => exact h1
  | 2, _ => exact h2
  | 3, _ => exact h3
  | 4, _ => exact h4
  | 5, _ => exact h5
/-- The blocks of the program's log. -/
def Blk (g : Nat) (vL vS : Value) (i : Nat) : Prop := i = g ∨ vL.ownBlock = some i ∨ vS.ownBlock = some i
def BlkR (g : Nat) (v : Value) (i : Nat) : Prop := i = g ∨ v.ownBlock = some i
/-- The program's log with events l. -/
structure LSt (w : World) (B g : Nat) (vL vS : Value) (l : List Ev) : Prop where
  base : B ≤ g
  row : w.heap[g]? = some (.cells #[vL, vS, .string (headF startS l)] 69 (0, 0))
  list : w.ownsRow B 24 6 vL l.length (evCs l)
  lines : w.ownsRow B 9 1 vS l.length (strVs (l.map lineS))
  neL : vL.ownBlock ≠ some g
  neS : vS.ownBlock ≠ some g
  neLS : ∀ i, vL.ownBlock = some i → vS.ownBlock ≠ some i
  valid : ∀ e ∈ l, lineE e = 0
  inn : ∀ e ∈ l, EvIn e
/-- The reference's. -/
structure RLSt (w : World) (B g : Nat) (v : Value) (l : List Ev) : Prop where
  base : B ≤ g
  row : w.heap[g]? = some (.cells #[.bool true, v] 71 (0, 0))
  list : w.ownsRow B 24 6 v l.length (evCs l)
  ne : v.ownBlock ≠ some g
  valid : ∀ e ∈ l, lineE e = 0
  inn : ∀ e ∈ l, EvIn e
theorem row_lt {w : World} {g : Nat} {o : Obj} (h : w.heap[g]? = some o) : g < w.heap.size := (Array.getElem?_eq_some_iff.1 h).1
theorem LSt.blk {w : World} {B g : Nat} {vL vS : Value} {l : List Ev} (h : LSt w B g vL vS l) {i : Nat} (hi : Blk g vL vS i) : B ≤ i ∧ i < w.heap.size := by
  rcases hi with rfl | hi | hi
  · exact ⟨h.base, row_lt h.row⟩
  · exact h.list.lt i hi
  · exact h.lines.lt i hi
theorem RLSt.blk {w : World} {B g : Nat} {v : Value} {l : List Ev} (h : RLSt w B g v l) {i : Nat} (hi : BlkR g v i) : B ≤ i ∧ i < w.heap.size := by
  rcases hi with rfl | hi
  · exact ⟨h.base, row_lt h.row⟩
  · exact h.list.lt i hi
theorem LSt.keep {w w' : World} {B g : Nat} {vL vS : Value} {l : List Ev} {S : Nat → Prop} (h : LSt w B g vL vS l) (hk : Keeps w w' S) (hd : ∀ i, Blk g vL vS i → ¬ S i) : LSt w' B g vL vS l :=
  ⟨h.base, (hk.block g (row_lt h.row) (hd g (.inl rfl))).trans h.row, own_keeps h.list hk (fun i hi => hd i (.inr (.inl hi))), own_keeps h.lines hk (fun i hi => hd i (.inr (.inr hi))), h.neL, h.neS, h.neLS, h.valid, h.inn⟩
theorem RLSt.keep {w w' : World} {B g : Nat} {v : Value} {l : List Ev} {S : Nat → Prop} (h : RLSt w B g v l) (hk : Keeps w w' S) (hd : ∀ i, BlkR g v i → ¬ S i) : RLSt w' B g v l :=
  ⟨h.base, (hk.block g (row_lt h.row) (hd g (.inl rfl))).trans h.row, own_keeps h.list hk (fun i hi => hd i (.inr hi)), h.ne, h.valid, h.inn⟩
theorem LSt.below {w w' : World} {B g : Nat} {vL vS : Value} {l : List Ev} (h : LSt w B g vL vS l) (hb : Below w.heap.size w w') : LSt w' B g vL vS l := h.keep (Keeps.of_below hb (fun _ => False)) (fun _ _ h => h)
theorem RLSt.below {w w' : World} {B g : Nat} {v : Value} {l : List Ev} (h : RLSt w B g v l) (hb : Below w.heap.size w w') : RLSt w' B g v l := h.keep (Keeps.of_below hb (fun _ => False)) (fun _ _ h => h)
theorem LSt.mono {w : World} {B B' g : Nat} {vL vS : Value} {l : List Ev} (h : LSt w B g vL vS l) (hb : B' ≤ B) : LSt w B' g vL vS l := ⟨Nat.le_trans hb h.base, h.row, h.list.mono hb, h.lines.mono hb, h.neL, h.neS, h.neLS, h.valid, h.inn⟩
theorem RLSt.mono {w : World} {B B' g : Nat} {v : Value} {l : List Ev} (h : RLSt w B g v l) (hb : B' ≤ B) : RLSt w B' g v l := ⟨Nat.le_trans hb h.base, h.row, h.list.mono hb, h.ne, h.valid, h.inn⟩
/-- The events of a log behind an Add. -/
def addE (l : List Ev) (x : Ev) : List Ev := if lineE x = 0 then l ++ [x] else l
/-- What Add leaves. -/
def AddL (w : World) (B g : Nat) (vL vS : Value) (l : List Ev) (w' : World) : Prop := ∃ vL' vS', LSt w' B g vL' vS' l ∧ Keeps w w' (Blk g vL vS) ∧ ∀ i, Blk g vL' vS' i → Blk g vL vS i ∨ w.heap.size ≤ i
def AddR (w : World) (B g : Nat) (v : Value) (l : List Ev) (w' : World) : Prop := ∃ v', RLSt w' B g v' l ∧ Keeps w w' (BlkR g v) ∧ ∀ i, BlkR g v' i → BlkR g v i ∨ w.heap.size ≤ i
theorem info_ev : (Tryz.prog.info? 24).map (fun i => (i.zero, i.size, i.bytes)) = some (some (.agg #[.int .i64 0, .string ByteArray.empty, .string ByteArray.empty, .string ByteArray.empty, .string ByteArray.empty, .int .i64 0]), 6, 80) := by kernel_rfl
/-- What makes a log. -/
def NewL (w : World) (e : Ending) (w' : World) : Prop := ∃ g vL vS, e = .returned (.pointer (some ⟨g, 0, none⟩)) ∧ LSt w' w.heap.size g vL vS []
set_option maxRecDepth 100000 in
theorem lnew_any (w : World) (hd : DigOk w) : Calls Tryz.prog 22 #[] w fun e w' => NewL w e w' ∧ Below w.heap.size w w' := by
  go_enter Tryz.func22, Tryz.ntmps22
  go_wp2_with fail
  refine (start_any _ hd).mono ?_
  rintro e w1 ⟨rfl, hb1⟩
  have B1 := Lib.hid hb1
  clear hb1
  go_wp2_with fail
  go_ret
  exact ⟨⟨w1.heap.size, .slice none 0 0, .slice none 0 0, rfl, ⟨B1.out.size, heap_alloc_new w1 _, World.ownsRow_nil _ _ _ _, World.ownsRow_nil _ _ _ _, by simp [Value.ownBlock], by simp [Value.ownBlock], by simp [Value.ownBlock], fun e he => by simp at he, fun e he => by simp at he⟩⟩, B1.out.alloc B1.out.size _⟩
set_option maxRecDepth 100000 in
theorem lmade_any (w : World) (B g : Nat) (vL vS : Value) (l : List Ev) (h : LSt w B g vL vS l) :
    Calls Tryz.prog 61 #[.pointer (some ⟨g, 0, none⟩)] w fun e w' => e = .returned (.bool true) ∧ w = w' := by
  have c2 : w.cell? ⟨g, 2, none⟩ = some (.string (headF startS l)) := cell_of_row w g 2 _ _ (0, 0) h.row
  have hz := headF_size l
  clear h
  generalize headF startS l = H at *
  have hne : H.toList.isEmpty = false := nonempty_size (by omega)
  clear hz
  go_enter Tryz.func61, Tryz.ntmps61
  go_wp2_with fail
  go_ret
  exact ⟨rfl, rfl⟩
set_option maxRecDepth 100000 in
theorem lhead_any (w : World) (B g : Nat) (vL vS : Value) (l : List Ev) (h : LSt w B g vL vS l) :
    Calls Tryz.prog 26 #[.pointer (some ⟨g, 0, none⟩)] w fun e w' => e = .returned (.string (headF startS l)) ∧ w = w' := by
  have c2 : w.cell? ⟨g, 2, none⟩ = some (.string (headF startS l)) := cell_of_row w g 2 _ _ (0, 0) h.row
  clear h
  generalize headF startS l = H at *
  go_enter Tryz.func26, Tryz.ntmps26
  go_wp2_with fail
  go_ret
  exact ⟨rfl, rfl⟩
theorem ev_len {w : World} {base e size n : Nat} {v : Value} {xs : List Value} (h : w.ownsRow base e size v n xs) : ∃ A c, v = .slice A n c ∧ n ≤ c ∧ (A = none → n = 0 ∧ c = 0) ∧ ∀ p, A = some p → ∃ b, p = ⟨b, 0, none⟩ ∧ v.ownBlock = some b := by
  rcases h.2 with ⟨rfl, rfl⟩ | ⟨g, cap, cur, rfl, hg, _, hnc, _⟩
  · exact ⟨none, 0, rfl, Nat.le_refl _, (fun _ => ⟨rfl, rfl⟩), (fun p hp => by cases hp)⟩
  · exact ⟨_, cap, rfl, hnc, (fun hp => by cases hp), (fun p hp => by cases hp; exact ⟨g, rfl, rfl⟩)⟩
set_option maxRecDepth 100000 in
theorem llen_any (w : World) (B g : Nat) (vL vS : Value) (l : List Ev) (h : LSt w B g vL vS l) :
    Calls Tryz.prog 28 #[.pointer (some ⟨g, 0, none⟩)] w fun e w' => e = .returned (.int .i64 l.length) ∧ w = w' := by
  obtain ⟨A, c, hv, _, _, _⟩ := ev_len h.list
  have c0 : w.cell? ⟨g, 0, none⟩ = some vL := cell_of_row w g 0 _ _ (0, 0) h.row
  clear h
  subst hv
  go_enter Tryz.func28, Tryz.ntmps28
  go_wp2_with fail
  go_ret
  exact ⟨rfl, rfl⟩
theorem lines_strs {w : World} {B g : Nat} {vL vS : Value} {l : List Ev} (h : LSt w B g vL vS l) : ∃ A c, vS = .slice A (l.map lineS).length c ∧ Strs w A (l.map lineS) := by
  have hl := h.lines
  rcases hl.2 with ⟨rfl, h0⟩ | ⟨g', cap, cur, rfl, _⟩
  · have : l = [] := List.eq_nil_of_length_eq_zero h0
    subst this
    exact ⟨none, 0, rfl, Strs.nil_ _ _⟩
  · exact ⟨_, cap, by rw [List.length_map], Strs.own hl (by rw [List.length_map]) (strVs_at _)⟩
theorem lines_small (l : List Ev) : ∀ s ∈ l.map lineS, s.size ≤ 1000000 := by
  intro s hs
  rw [List.mem_map] at hs
  obtain ⟨e, _, rfl⟩ := hs
  have := lineS_size e
  omega
set_option maxRecDepth 100000 in
theorem lroot_any (w : World) (hd : DigOk w) (B g : Nat) (vL vS : Value) (l : List Ev) (h : LSt w B g vL vS l) (hl : l.length ≤ 1000000) :
    Calls Tryz.prog 37 #[.pointer (some ⟨g, 0, none⟩)] w fun e w' => e = .returned (.string (rootS (l.map lineS))) ∧ Below w.heap.size w w' := by
  have HM := Lib.hid (lmade_any w B g vL vS l h)
  obtain ⟨A, c, hv, hs⟩ := lines_strs h
  have hr := root_any (l.map lineS) A c w hd hs (by rw [List.length_map]; exact hl) (lines_small l)
  have c1 : w.cell? ⟨g, 1, none⟩ = some vS := cell_of_row w g 1 _ _ (0, 0) h.row
  clear h hs
  generalize l.map lineS = L at *
  have HR := Lib.hid hr
  clear hr
  subst hv
  go_enter Tryz.func37, Tryz.ntmps37
  go_wp2_with fail
  refine (Calls.mono HM.out ?_)
  rintro e w1 ⟨rfl, rfl⟩
  go_wp2_with fail
  refine (Calls.mono HR.out ?_)
  rintro e w2 ⟨rfl, hb2⟩
  go_wp2_with fail
  go_ret
  exact ⟨rfl, hb2⟩
set_option maxRecDepth 100000 in
theorem lprove_any (i : Int) (w : World) (hd : DigOk w) (B g : Nat) (vL vS : Value) (l : List Ev) (h : LSt w B g vL vS l) (hl : l.length ≤ 1000000) :
    Calls Tryz.prog 30 #[.pointer (some ⟨g, 0, none⟩), .int .i64 i] w fun e w' => RetStrs2 w.heap.size w' e (pathS (l.map lineS) i) (pathE (l.map lineS) i) ∧ Below w.heap.size w w' := by
  have HM := Lib.hid (lmade_any w B g vL vS l h)
  obtain ⟨A, c, hv, hs⟩ := lines_strs h
  have hr := path_any (l.map lineS) A c i w hd hs (by rw [List.length_map]; exact hl) (lines_small l)
  have c1 : w.cell? ⟨g, 1, none⟩ = some vS := cell_of_row w g 1 _ _ (0, 0) h.row
  clear h hs
  generalize l.map lineS = L at *
  have HR := Lib.hid hr
  clear hr
  subst hv
  go_enter Tryz.func30, Tryz.ntmps30
  go_wp2_with fail
  refine (Calls.mono HM.out ?_)
  rintro e w1 ⟨rfl, rfl⟩
  go_wp2_with fail
  refine (Calls.mono HR.out ?_)
  rintro e w2 ⟨⟨A2, c2, rfl, hs2, hA2, hc2⟩, hb2⟩
  go_wp2_with fail
  go_ret2
  exact ⟨⟨A2, c2, rfl, hs2, hA2, hc2⟩, hb2⟩
end Go.Proofs.YthdpkfddmkijlaaGreatDoor

/- (*audit.Log).Add. -/
namespace Go.Proofs.YthdpkfddmkijlaaGreatDoor
open Go.RowKit

/-- The rows behind add: the head has not moved yet. -/
def AddMid (w : World) (B g : Nat) (vL vS : Value) (l : List Ev) (x : Ev) (h : ByteArray) (w' : World) : Prop :=
  ∃ vL' vS', w'.heap[g]? = some (.cells #[vL', vS', .string h] 69 (0, 0)) ∧ w'.ownsRow B 24 6 vL' (l ++ [x]).length (evCs (l ++ [x])) ∧ w'.ownsRow B 9 1 vS' (l ++ [x]).length (strVs ((l ++ [x]).map lineS)) ∧ vL'.ownBlock ≠ some g ∧ vS'.ownBlock ≠ some g ∧ (∀ i, vL'.ownBlock = some i → vS'.ownBlock ≠ some i) ∧ Keeps w w' (Blk g vL vS) ∧ ∀ i, Blk g vL' vS' i → Blk g vL vS i ∨ w.heap.size ≤ i
theorem evc_new (w : World) (x : Ev) : ∀ j u, (evC x)[j]? = some u → (w.alloc (.cells #[.int .i64 x.time, .string x.tenant, .string x.actor, .string x.action, .string x.object, .int .i64 x.result] 24)).cell? ((⟨w.heap.size, 0, none⟩ : Addr).add j) = some u := by
  intro j u hu
  rw [addr_add, cell_of_row _ _ j _ _ (0, 0) (heap_alloc_new w _), ← hu]
  simp [evC]
theorem evc_at (w : World) (x : Ev) (n : Nat) (h : w.heap.size = n) : ∀ j u, (evC x)[j]? = some u → (w.alloc (.cells #[.int .i64 x.time, .string x.tenant, .string x.actor, .string x.action, .string x.object, .int .i64 x.result] 24)).drew.cell? ((⟨n, 0, none⟩ : Addr).add j) = some u := by
  subst h
  exact evc_new w x
theorem one_at (w : World) (x : Value) (t : TypeId) (n : Nat) (h : w.heap.size = n) : ∀ j u, [x][j]? = some u → (w.alloc (.cells #[x] t)).cell? ((⟨n, 0, none⟩ : Addr).add j) = some u := by
  subst h; exact cell_one_new w x t
theorem evc_one (x : Ev) : ∀ u ∈ evC x, u.oneCell' = true := by
  intro u hu
  simp only [evC, List.mem_cons, List.not_mem_nil, or_false] at hu
  rcases hu with rfl | rfl | rfl | rfl | rfl | rfl <;> rfl
theorem row_set {w : World} {g : Nat} {t : TypeId} {cs : Array Value} (h : w.heap[g]? = some (.cells cs t (0, 0))) (i : Nat) (u : Value) : (w.setCell ⟨g, i, none⟩ u).heap[g]? = some (.cells (cs.setIfInBounds i u) t (0, 0)) := by
  simp [World.setCell, Array.getElem?_modify, h]
theorem row_fr {w : World} {g : Nat} {t : TypeId} {cs : Array Value} (h : w.heap[g]? = some (.cells cs t (0, 0))) (i : Nat) : w.frozen? ⟨g, i, none⟩ = false := by simp [World.frozen?, h]
/-- The rows behind both appends. -/
theorem mid_of {w wa w4 w7 : World} {B g : Nat} {vL vS vL' vS' : Value} {l : List Ev} {x : Ev} {o : Obj} (hs : LSt w B g vL vS l)
    (ha : Below w.heap.size w wa) (hg4 : wa.grownBy w4 vL.ownBlock) (ho4 : w4.ownsRow B 24 6 vL' (l.length + 1) (evCs l ++ evC x)) (hat : vL'.ownBlock = vL.ownBlock ∨ ∀ i, vL'.ownBlock = some i → wa.heap.size ≤ i)
    (hg7 : ((w4.setCell ⟨g, 0, none⟩ vL').alloc o).grownBy w7 vS.ownBlock) (ho7 : w7.ownsRow B 9 1 vS' (l.length + 1) (strVs (l.map lineS) ++ [strV (lineS x)])) (hat7 : vS'.ownBlock = vS.ownBlock ∨ ∀ i, vS'.ownBlock = some i → w4.heap.size < i) :
    AddMid w B g vL vS l x (headF startS l) (w7.setCell ⟨g, 1, none⟩ vS') := by
  have hglt := row_lt hs.row
  have hsa := ha.size
  have hs4 := hg4.size
  have hne4 : vL'.ownBlock ≠ some g := by
    rcases hat with h | h
    · rw [h]; exact hs.neL
    · intro e; have := h g e; omega
  have hne7 : vS'.ownBlock ≠ some g := by
    rcases hat7 with h | h
    · rw [h]; exact hs.neS
    · intro e; have := h g e; omega
  have hLS' : ∀ i, vL'.ownBlock = some i → vS.ownBlock ≠ some i := by
    intro i hi e
    rcases hat with h | h
    · exact hs.neLS i (by rw [← h]; exact hi) e
    · have := h i hi; have := (hs.lines.lt i e).2; omega
  have hK4 : Keeps w w4 (Blk g vL vS) := Keeps.after ha (Keeps.of_grown hg4 (fun i hi => .inr (.inl hi)))
  have hK5 := hK4.setCell g 0 vL' (.inl (.inl rfl))
  have hK6 : Keeps w ((w4.setCell ⟨g, 0, none⟩ vL').alloc o) (Blk g vL vS) := hK5.then ((Below.refl _ _).alloc (Nat.le_refl _) o)
  have hK7 : Keeps w w7 (Blk g vL vS) := hK6.trans (Keeps.of_grown (S := Blk g vL vS) hg7 (fun i hi => .inr (.inr hi))) (fun i hi => .inl hi)
  have hr4 : w4.heap[g]? = some (.cells #[vL, vS, .string (headF startS l)] 69 (0, 0)) := by
    rw [hg4.block g (by omega) (fun e => hs.neL e.symm), ha.block g hglt]; exact hs.row
  have hr5 := row_set hr4 0 vL'
  have hr7 : w7.heap[g]? = some (.cells #[vL', vS, .string (headF startS l)] 69 (0, 0)) := by
    rw [hg7.block g (by simp; omega) (fun e => hs.neS e.symm)]
    rw [((Below.refl (w4.setCell ⟨g, 0, none⟩ vL').heap.size _).alloc (Nat.le_refl _) o).block g (by simp; omega)]
    exact hr5
  have hr8 := row_set hr7 1 vS'
  refine ⟨vL', vS', hr8, ?_, ?_, hne4, hne7, ?_, hK7.setCell g 1 vS' (.inl (.inl rfl)), ?_⟩
  · rw [List.length_append, ← evCs_snoc]
    have hk : Keeps w4 (w7.setCell ⟨g, 1, none⟩ vS') (fun i => i = g ∨ vS.ownBlock = some i) :=
      ((((Keeps.refl w4 (fun i => i = g ∨ vS.ownBlock = some i)).setCell g 0 vL' (.inl (.inl rfl))).then ((Below.refl _ _).alloc (Nat.le_refl _) o)).trans (Keeps.of_grown (S := fun i => i = g ∨ vS.ownBlock = some i) hg7 (fun i hi => .inr hi)) (fun i hi => .inl hi)).setCell g 1 vS' (.inl (.inl rfl))
    refine own_keeps ho4 hk (fun i hi => ?_)
    rintro (rfl | h)
    · exact hne4 hi
    · exact hLS' i hi h
  · rw [List.length_append, List.map_append]
    show World.ownsRow _ _ _ _ _ _ (strVs (l.map lineS ++ [lineS x]))
    rw [← strVs_snoc]
    exact own_stays ho7 (fun i hi => Below.heap_setCell w7 ⟨g, 1, none⟩ vS' i (fun e => hne7 (by rw [hi]; exact congrArg some e)))
  · intro i hi e
    rcases hat7 with h | h
    · exact hLS' i hi (by rw [← h]; exact e)
    · have := h i e; have := (ho4.lt i hi).2; omega
  · rintro i (rfl | hi | hi)
    · exact .inl (.inl rfl)
    · rcases hat with h | h
      · exact .inl (.inr (.inl (by rw [← h]; exact hi)))
      · exact .inr (by have := h i hi; omega)
    · rcases hat7 with h | h
      · exact .inl (.inr (.inr (by rw [← h]; exact hi)))
      · exact .inr (by have := h i hi; omega)
set_option maxHeartbeats 8000000 in
set_option maxRecDepth 100000 in
theorem ladd_rows (x : Ev) (w : World) (B g : Nat) (vL vS : Value) (l : List Ev) (h : LSt w B g vL vS l) (hB : B ≤ w.heap.size) (hl : l.length ≤ 5000) :
    Calls Tryz.prog 62 #[.pointer (some ⟨g, 0, none⟩), evV x, .string (lineS x)] w fun e w' => e = .returned (.tuple #[]) ∧ AddMid w B g vL vS l x (headF startS l) w' := by
  obtain ⟨i0, hi, hz0, hz1, hz2⟩ := info_parts info_ev
  obtain ⟨i1, hi', hz0', hz1', hz2'⟩ := info_parts Tryz.info_s
  obtain ⟨S, HSS⟩ : ∃ S, Hid (lineS x = S) := ⟨_, Lib.hid rfl⟩
  have HST := Lib.hid h
  have HW := Lib.hid hB
  rw [HSS.out]
  obtain ⟨x0, x1, x2, x3, x4, x5⟩ := x
  have c0 : w.cell? ⟨g, 0, none⟩ = some vL := cell_of_row w g 0 _ _ (0, 0) h.row
  have hgl := row_lt h.row
  have HBA : Hid (Below w.heap.size w (((w.alloc (.cells #[.int .i64 x0, .string x1, .string x2, .string x3, .string x4, .int .i64 x5] 24)).alloc (.cells #[.int .i64 x0, .string x1, .string x2, .string x3, .string x4, .int .i64 x5] 24)).drew)) := Lib.hid ((((Below.refl _ _).alloc (Nat.le_refl _) _).alloc (by simp) _).drew)
  have HOL := Lib.hid (((h.list.alloc (.cells #[.int .i64 x0, .string x1, .string x2, .string x3, .string x4, .int .i64 x5] 24)).alloc (.cells #[.int .i64 x0, .string x1, .string x2, .string x3, .string x4, .int .i64 x5] 24)).drew)
  have HEN := Lib.hid (evc_at (w.alloc (.cells #[.int .i64 x0, .string x1, .string x2, .string x3, .string x4, .int .i64 x5] 24)) ⟨x0, x1, x2, x3, x4, x5⟩ (w.heap.size + 1) (by simp))
  show Calls Tryz.prog 62 #[.pointer (some ⟨g, 0, none⟩), .agg #[.int .i64 x0, .string x1, .string x2, .string x3, .string x4, .int .i64 x5], .string S] w _
  clear h hB
  go_enter Tryz.func62, Tryz.ntmps62
  go_wp2_with fail
  go_region_law (first
    | (refine step_append_lies _ (by rfl) _ _ _ (by rfl) B 24 i0 _ 6 80 Tryz.underlying26 hi hz0 hz1 hz2 rfl (by omega) vL l.length (evCs l) (by rfl) ?_ ⟨w.heap.size + 1, 0, none⟩ 1 1 (evC ⟨x0, x1, x2, x3, x4, x5⟩) (by rfl) (by rfl) ?_ (evc_one _) (by omega) (by unfold maxLen; omega) (by omega) ?_ (w.heap.size + 2) ?_ ?_; exact HOL.out; exact HEN.out; (have := HW.out; have := HBA.out.size; simp at *; omega); (simp); (intro gg cap4 w4 ho4 hg4 hat4 hlt4); (have hk4 : w4.heap[g]? = _ := (hg4.block g (by simp; omega) (fun e => HST.out.neL e.symm)).trans ((HBA.out.block g hgl).trans HST.out.row)); (have r0 : w4.cell? ⟨g, 0, none⟩ = some _ := cell_of_row w4 g 0 _ _ (0, 0) hk4); (have rf0 := row_fr hk4 0); (have HK4 := Lib.hid hk4); (have HO4 := Lib.hid ho4); (have HG4 := Lib.hid hg4); (have HA4 := Lib.hid hat4); clear hk4 ho4 hg4 hat4 hlt4)
    | fail)
  all_goals
    have hr5 := row_set HK4.out 0 (.slice (some ⟨gg, 0, none⟩) (l.length + 1) cap4)
    have s1 : (w4.setCell ⟨g, 0, none⟩ (.slice (some ⟨gg, 0, none⟩) (l.length + 1) cap4)).cell? ⟨g, 1, none⟩ = some vS := cell_of_row _ g 1 _ _ (0, 0) hr5
    have HR5 := Lib.hid hr5
    have HLN : Hid ((w4.setCell ⟨g, 0, none⟩ (.slice (some ⟨gg, 0, none⟩) (l.length + 1) cap4)).ownsRow B 9 1 vS l.length (strVs (l.map lineS))) := Lib.hid (by
      refine own_keeps (own_below HST.out.lines HBA.out) ((Keeps.of_grown (S := fun i => i = g ∨ vL.ownBlock = some i) HG4.out (fun i hi => .inr hi)).setCell g 0 _ (.inl (.inl rfl))) (fun i hi => ?_)
      rintro (rfl | h)
      · exact HST.out.neS hi
      · exact HST.out.neLS i h hi)
    have HB4 : Hid (B ≤ w4.heap.size) := Lib.hid (Nat.le_trans (Nat.le_trans HW.out HBA.out.size) HG4.out.size)
    have hg4l := row_lt HK4.out
    clear hr5
    go_wp2_with (first
      | (at_builtin; refine wpList_append_own_at _ rfl _ _ 33 rfl B 9 i1 (.string ByteArray.empty) 1 16 Tryz.underlying33 hi' hz0' hz1' hz2' rfl (by decide) vS l.length (strVs (l.map lineS)) rfl (HLN.out.alloc _) ⟨w4.heap.size, 0, none⟩ 1 1 [strV S] rfl rfl (one_at _ (strV S) 9 w4.heap.size (by simp)) (by intro u hu; simp at hu; subst hu; rfl) (by unfold maxLen; omega) (by omega) (by have := HB4.out; simp; omega) ?_; intro v7 w7 ho7 hg7 _ hob7; have hk7 : w7.heap[g]? = _ := (hg7.block g (by simp; omega) (fun e => HST.out.neS e.symm)).trans ((((Below.refl (w4.setCell ⟨g, 0, none⟩ (.slice (some ⟨gg, 0, none⟩) (l.length + 1) cap4)).heap.size _).alloc (Nat.le_refl _) _).block g (by simp; omega)).trans HR5.out); have r1 : w7.cell? ⟨g, 1, none⟩ = some vS := cell_of_row w7 g 1 _ _ (0, 0) hk7; have rf1 := row_fr hk7 1; obtain ⟨qb, qc, hqv, _⟩ := ho7.form (by omega); subst hqv; have HO7 := Lib.hid ho7; have HG7 := Lib.hid hg7; have HA7 := Lib.hid hob7; clear hk7 ho7 hg7 hob7)
      | fail)
    go_end0
    refine ⟨rfl, ?_⟩
    refine mid_of (vS' := .slice (some ⟨qb, 0, none⟩) (l.length + 1) qc) HST.out HBA.out HG4.out HO4.out ?_ HG7.out (by rw [HSS.out]; exact HO7.out) ?_
    · rcases HA4.out with h | h
      · exact .inl h.symm
      · refine .inr (fun i hi => ?_)
        have : gg = i := by simpa [Value.ownBlock] using hi
        simp; omega
    · rcases HA7.out with h | h
      · exact .inl h
      · refine .inr (fun i hi => ?_)
        rw [h] at hi
        have : w4.heap.size + 1 = i := by simpa using hi
        omega
end Go.Proofs.YthdpkfddmkijlaaGreatDoor

/- What the variables of strconv hold. -/
namespace Go.Proofs.YthdpkfddmkijlaaGreatDoor
open Go.RowKit

/-- What the variables of strconv hold. -/
def ErrsOk (w : World) : Prop := (∃ t p, w.var? Tryz.prog "strconv.ErrSyntax" = some #[.iface t p]) ∧ (∃ t p, w.var? Tryz.prog "strconv.ErrRange" = some #[.iface t p]) ∧ 1 < w.heap.size ∧ 2 < w.heap.size
theorem ErrsOk.below {w w' : World} (h : ErrsOk w) (hb : Below w.heap.size w w') : ErrsOk w' := by
  obtain ⟨⟨t, p, h1⟩, ⟨t', p', h2⟩, l1, l2⟩ := h
  exact ⟨⟨t, p, var?_below hb (by kernel_rfl) l1 h1⟩, ⟨t', p', var?_below hb (by kernel_rfl) l2 h2⟩, Nat.lt_of_lt_of_le l1 hb.size, Nat.lt_of_lt_of_le l2 hb.size⟩
end Go.Proofs.YthdpkfddmkijlaaGreatDoor

/- codec.ReadInt computes readIntP. -/
namespace Go.Proofs.YthdpkfddmkijlaaGreatDoor
open Go.RowKit

theorem ret_ii {a b x y : Int} (h1 : a = b) (h2 : x = y) : Ending.returned (.tuple #[.int .i64 a, .int .i64 x]) = .returned (.tuple #[.int .i64 b, .int .i64 y]) := by rw [h1, h2]
theorem ret_pp {p : Int × Int} {a x : Int} (h : p = (a, x)) : Ending.returned (.tuple #[.int .i64 a, .int .i64 x]) = .returned (.tuple #[.int .i64 p.1, .int .i64 p.2]) := by rw [h]
/-- The form by what stands behind the sign. -/
def trimB (s : ByteArray) : ByteArray := ⟨(Lib.trimPrefix s.data.toList [45]).toArray⟩
theorem trim_size (s : ByteArray) : (trimB s).size ≤ s.size := by
  show (Lib.trimPrefix s.data.toList [45]).toArray.size ≤ _
  unfold Lib.trimPrefix
  split
  · simp
  · simp
theorem trim_cases (l : List UInt8) : (∃ r, l = 45 :: r ∧ Lib.trimPrefix l [45] = r) ∨ (l = [] ∧ Lib.trimPrefix l [45] = []) ∨ (∃ c r, l = c :: r ∧ c ≠ 45 ∧ Lib.trimPrefix l [45] = l) := by
  cases l with
  | nil => exact .inr (.inl ⟨rfl, by simp [Lib.trimPrefix]⟩)
  | cons c r =>
    by_cases hc : c = 45
    · subst hc
      exact .inl ⟨r, rfl, by simp [Lib.trimPrefix, Lib.hasPrefix]⟩
    · refine .inr (.inr ⟨c, r, rfl, hc, ?_⟩)
      have : Lib.hasPrefix (c :: r) [45] = false := by
        rw [Lib.hasPrefix]
        simp [List.isPrefixOf]
        exact fun h => hc h.symm
      rw [Lib.trimPrefix, this]; rfl
theorem form_empty {s : ByteArray} (h : (trimB s).size = 0) : intForm s.data.toList = false := by
  have e : Lib.trimPrefix s.data.toList [45] = [] := by
    have : (Lib.trimPrefix s.data.toList [45]).toArray.size = 0 := h
    exact List.eq_nil_of_length_eq_zero (by simpa using this)
  rcases trim_cases s.data.toList with ⟨r, h1, h2⟩ | ⟨h1, _⟩ | ⟨c, r, h1, _, h2⟩
  · rw [h1, intForm, if_pos rfl, show r = [] from h2.symm.trans e]; rfl
  · rw [h1]; rfl
  · rw [h2, h1] at e; cases e
theorem trim_list (s : ByteArray) : (trimB s).data.toList = Lib.trimPrefix s.data.toList [45] := by simp [trimB]
theorem head_of {t : ByteArray} (h : 0 < t.size) : t.data.toList = t[0] :: t.data.toList.drop 1 := by
  have := drop_cons t 0 h
  rwa [List.drop_zero] at this
/-- A leading nought. -/
theorem form_lead {s : ByteArray} (h : 0 < (trimB s).size) (h48 : (trimB s)[0].toNat = 48) (hs : s ≠ ⟨#[48]⟩) : intForm s.data.toList = false := by
  have hh := head_of h
  rw [trim_list] at hh
  rcases trim_cases s.data.toList with ⟨r, h1, h2⟩ | ⟨h1, h2⟩ | ⟨c, r, h1, h3, h2⟩
  · rw [h2] at hh
    rw [h1, intForm, if_pos rfl, hh, decL]
    simp [h48]
  · rw [h2] at hh; cases hh
  · rw [h2, h1] at hh
    injection hh with e1 e2
    rw [h1, intForm, if_neg h3, decL, e1]
    have hr : r ≠ [] := by
      intro hr
      apply hs
      apply ByteArray.ext; apply Array.toList_inj.1
      rw [h1, hr, e1]
      show [_] = [_]
      congr 1
      exact UInt8.toNat_inj.1 (by rw [h48]; rfl)
    simp [h48, hr]
theorem form_other {s : ByteArray} (h : 0 < (trimB s).size) (h48 : (trimB s)[0].toNat ≠ 48) : intForm s.data.toList = (trimB s).data.toList.all digC := by
  have hh := head_of h
  have hl := trim_list s
  rw [hl] at hh
  rcases trim_cases s.data.toList with ⟨r, h1, h2⟩ | ⟨h1, h2⟩ | ⟨c, r, h1, h3, h2⟩
  · rw [h2] at hh hl
    rw [hl, h1, intForm, if_pos rfl, hh, decL, decide_eq_false h48]; rfl
  · rw [h2] at hh; cases hh
  · rw [h2, h1] at hh hl
    injection hh with e1 e2
    rw [hl, h1, intForm, if_neg h3, decL, e1, decide_eq_false h48]; rfl
theorem form_nought : intForm (⟨#[48]⟩ : ByteArray).data.toList = (trimB ⟨#[48]⟩).data.toList.all digC := by decide +kernel

/-- strconv.Atoi at a decimal form. -/
theorem atoi_ok (s : ByteArray) (w : World) (hf : intForm s.data.toList = true) (hr : inInt (intVal s.data.toList)) (hs : s.size ≤ 1000000) :
    Calls Tryz.prog 86 #[.string s] w fun e w' => e = .returned (.tuple #[.int .i64 (intVal s.data.toList), .nilIface]) ∧ Below w.heap.size w w' := by
  refine (Tryz.strconv_Atoi_ok s (by omega) (intVal s.data.toList) (by rw [atoi_form hf, if_pos hr]) w).mono ?_
  rintro e w' ⟨he, hw⟩
  refine ⟨he, ?_⟩
  rcases hw with rfl | ⟨t, rfl⟩
  · exact Below.refl _ _
  · exact Lib.bytesWorld_below w _ t
theorem atoi_range (s : ByteArray) (w : World) (hf : intForm s.data.toList = true) (hr : ¬ inInt (intVal s.data.toList)) (hs : s.size ≤ 1000000) (hE : ErrsOk w) :
    Calls Tryz.prog 86 #[.string s] w fun e w' => (∃ (u : Int) (t : TypeId) (p : Value), e = .returned (.tuple #[.int .i64 u, .iface t p])) ∧ Below w.heap.size w w' := by
  obtain ⟨_, ⟨t', p', h2⟩, _, _⟩ := hE
  refine (Tryz.strconv_Atoi_range_var s (by omega) (by rw [atoi_form hf, if_neg hr]) t' p' w h2).mono ?_
  rintro e w' ⟨N, he, _, _, hb⟩
  exact ⟨⟨_, _, _, he⟩, hb⟩

set_option maxHeartbeats 4000000 in
set_option maxRecDepth 100000 in
theorem readint_any (s : ByteArray) (w : World) (hs : s.size ≤ 1000000) (hE : ErrsOk w) :
    Calls Tryz.prog 55 #[.string s] w fun e w' => e = .returned (.tuple #[.int .i64 (readIntP s).1, .int .i64 (readIntP s).2]) ∧ Below w.heap.size w w' := by
  have htr : Calls Tryz.prog 85 #[.string s, .string ⟨#[45]⟩] w fun e w' => e = .returned (.string (trimB s)) ∧ w = w' := (Tryz.strings_TrimPrefix s ⟨#[45]⟩ w).mono fun _ _ h => ⟨h.1, h.2.symm⟩
  have htz := trim_size s
  have hcs : (((s.toList == [48]) = false) ∧ (trimB s).size = 0 ∧ intForm s.data.toList = false) ∨ (((s.toList == [48]) = false) ∧ (∃ h : 0 < (trimB s).size, (trimB s)[0].toNat = 48) ∧ intForm s.data.toList = false) ∨ ((((s.toList == [48]) = false) ∧ ∃ h : 0 < (trimB s).size, (trimB s)[0].toNat ≠ 48) ∧ intForm s.data.toList = (trimB s).data.toList.all digC) ∨ (s = ⟨#[48]⟩ ∧ intForm s.data.toList = (trimB s).data.toList.all digC) := by
    by_cases h0 : s = ⟨#[48]⟩
    · exact .inr (.inr (.inr ⟨h0, by rw [h0]; exact form_nought⟩))
    · have hne : (s.toList == [48]) = false := by
        have := str_ne h0
        rwa [show (⟨#[48]⟩ : ByteArray).toList = [48] by rw [Lib.toList_data]] at this
      by_cases h1 : (trimB s).size = 0
      · exact .inl ⟨hne, h1, form_empty h1⟩
      · have hp : 0 < (trimB s).size := by omega
        by_cases h2 : (trimB s)[0].toNat = 48
        · exact .inr (.inl ⟨hne, ⟨hp, h2⟩, form_lead hp h2 h0⟩)
        · exact .inr (.inr (.inl ⟨⟨hne, hp, h2⟩, form_other hp h2⟩))
  generalize trimB s = t at *
  have HC := Lib.hid hcs
  have HT := Lib.hid htr
  clear htr hcs
  have hse := hs
  rcases HC.out with ⟨hq, h0, hf⟩ | ⟨hq, ⟨hp, h48⟩, hf⟩ | hrest
  · have hG := Lib.hid (readInt_form hf)
    have hte : t.toList.isEmpty = true := by
      rw [Lib.toList_data, List.isEmpty_iff]
      exact List.eq_nil_of_length_eq_zero (by simpa using h0)
    clear hf h0
    go_enter Tryz.func55, Tryz.ntmps55
    go_wp2_with fail
    refine (Calls.mono HT.out ?_)
    rintro e w1 ⟨rfl, rfl⟩
    go_wp2_with fail
    go_ret2
    exact ⟨ret_pp hG.out, Below.refl _ _⟩
  · have hG := Lib.hid (readInt_form hf)
    have hb : ((t[0].toNat : Int) == 48) = true := by rw [h48]; rfl
    have hte : t.toList.isEmpty = false := by
      rw [Lib.toList_data, head_of hp]; rfl
    clear hf h48
    go_enter Tryz.func55, Tryz.ntmps55
    go_wp2_with fail
    refine (Calls.mono HT.out ?_)
    rintro e w1 ⟨rfl, rfl⟩
    go_wp2_with fail
    go_ret2
    exact ⟨ret_pp hG.out, Below.refl _ _⟩
  · have hr2 : ((((s.toList == [48]) = false) ∧ t.toList.isEmpty = false ∧ ∃ h : 0 < t.size, ((t[0].toNat : Int) == 48) = false) ∨ s = ⟨#[48]⟩) ∧ Hid (intForm s.data.toList = t.data.toList.all digC) := by
      rcases hrest with ⟨⟨hq, hp, h48⟩, hf⟩ | ⟨h, hf⟩
      · exact ⟨.inl ⟨hq, by rw [Lib.toList_data, head_of hp]; rfl, hp, by rw [beq_eq_false_iff_ne]; omega⟩, Lib.hid hf⟩
      · exact ⟨.inr h, Lib.hid hf⟩
    obtain ⟨hr3, HF⟩ := hr2
    clear hrest HC
    have hbad : Hid (t.data.toList.all digC = false → readIntP s = (0, 4)) := Lib.hid (fun h => readInt_form (HF.out.trans h))
    have hgood : Hid (t.data.toList.all digC = true → inInt (intVal s.data.toList) → readIntP s = (intVal s.data.toList, 0)) := Lib.hid (fun h hr => readInt_ok (HF.out.trans h) hr)
    have hover : Hid (t.data.toList.all digC = true → ¬ inInt (intVal s.data.toList) → readIntP s = (0, 27)) := Lib.hid (fun h hr => readInt_range (HF.out.trans h) hr)
    have hA := Lib.hid (fun wq hd hr => atoi_ok s wq (HF.out.trans hd) hr hs)
    have hB := Lib.hid (fun wq hd hr hE => atoi_range s wq (HF.out.trans hd) hr hs hE)
    clear HF
    generalize readIntP s = Z at *
    rcases hr3 with ⟨hq, hte, hp, hb⟩ | rfl
    all_goals
      generalize intVal _ = V at *
      go_enter Tryz.func55, Tryz.ntmps55
      go_wp2_with fail
      refine (Calls.mono HT.out ?_)
      rintro e w1 ⟨rfl, rfl⟩
      go_wp2_with fail
      go_loopw [6] (fun _ wr => ∃ pos : Nat, wr = w.iter t pos ∧ Hid ((t.data.toList.take pos).all digC = true) ∧ pos ≤ t.size) (fun _ wr => t.size - wr.iterPos w.heap.size)
      case atStart => exact ⟨0, rfl, Lib.hid (by simp), by omega⟩
      case round =>
        obtain ⟨pos, rfl, HD, hpos⟩ := hrel
        by_cases hlt : pos < t.size
        · obtain ⟨c, hc⟩ : ∃ c, t[pos].toNat = c := ⟨_, rfl⟩
          have HC := Lib.hid hc
          by_cases ha : c < 128
          · have hnx : ∀ ty, (Instr.next (.pointer (some ⟨w.heap.size, 0, none⟩)) true ty).run Tryz.prog (w.iter t pos) = .ok (.tuple #[.bool true, .int .i64 pos, .int .i32 c]) (w.iter t (pos + 1)) := fun ty => by
              have := run_next_ascii (P := Tryz.prog) w t pos ty hlt (by omega)
              rwa [hc] at this
            have hcs : c < 48 ∨ 57 < c ∨ (48 ≤ c ∧ c ≤ 57) := by omega
            clear hc
            rcases hcs with h1 | h1 | ⟨h1, h2⟩
            · have hG := Lib.hid (hbad.out (dig_bad hlt (by rw [digC, HC.out]; simp; omega)))
              go_wp2_with fail
              go_ret2
              exact ⟨ret_pp hG.out, (Below.refl _ _).alloc (Nat.le_refl _) _⟩
            · have hG := Lib.hid (hbad.out (dig_bad hlt (by rw [digC, HC.out]; simp; omega)))
              go_wp2_with fail
              go_ret2
              exact ⟨ret_pp hG.out, (Below.refl _ _).alloc (Nat.le_refl _) _⟩
            · have HD1 : Hid ((t.data.toList.take (pos + 1)).all digC = true) := Lib.hid (dig_all hlt HD.out (by rw [digC, HC.out]; simp; omega))
              go_wp2_with fail
              go_roundw
              case rel => exact ⟨pos + 1, rfl, HD1, by omega⟩
              case measure => simp; omega
          · have hdec := (decode_high t pos hlt (by omega)).1
            have hG := Lib.hid (hbad.out (dig_bad hlt (by rw [digC, HC.out]; simp; omega)))
            obtain ⟨r, hr⟩ : ∃ r, (Utf8.decode t pos).1 = r := ⟨_, rfl⟩
            obtain ⟨q, hq⟩ : ∃ q, pos + (Utf8.decode t pos).2 = q := ⟨_, rfl⟩
            have hnx : ∀ ty, (Instr.next (.pointer (some ⟨w.heap.size, 0, none⟩)) true ty).run Tryz.prog (w.iter t pos) = .ok (.tuple #[.bool true, .int .i64 pos, .int .i32 r]) (w.iter t q) := fun ty => by
              have := run_next_any (P := Tryz.prog) w t pos ty hlt
              rwa [hr, hq] at this
            rw [hr] at hdec
            clear hc hr hq
            go_wp2_with fail
            go_ret2
            exact ⟨ret_pp hG.out, (Below.refl _ _).alloc (Nat.le_refl _) _⟩
        · have hnx : ∀ ty, (Instr.next (.pointer (some ⟨w.heap.size, 0, none⟩)) true ty).run Tryz.prog (w.iter t pos) = .ok (.tuple #[.bool false]) (w.iter t pos) := fun ty => run_next_end w t pos ty hlt
          have HT1 : Hid (t.data.toList.all digC = true) := Lib.hid (by have h := HD.out; rwa [List.take_of_length_le (by simp; have : t.size = t.data.size := rfl; omega)] at h)
          have HBw : Hid (Below w.heap.size w (w.iter t pos)) := Lib.hid ((Below.refl _ _).alloc (Nat.le_refl _) _)
          by_cases hin : inInt V
          · have hG := Lib.hid (hgood.out HT1.out hin)
            have HA := Lib.hid (fun wq => hA.out wq HT1.out hin)
            clear hin
            go_wp2_with fail
            refine (Calls.mono (HA.out _) ?_)
            rintro e w2 ⟨rfl, hb2⟩
            go_wp2_with fail
            go_ret2
            exact ⟨ret_pp hG.out, bthen HBw.out hb2⟩
          · have hG := Lib.hid (hover.out HT1.out hin)
            have HA := Lib.hid (fun wq => hB.out wq HT1.out hin)
            clear hin
            go_wp2_with fail
            refine (Calls.mono (HA.out _ (hE.below HBw.out)) ?_)
            rintro e w2 ⟨⟨u, ti, p, rfl⟩, hb2⟩
            go_wp2_with fail
            go_ret2
            exact ⟨ret_pp hG.out, bthen HBw.out hb2⟩
end Go.Proofs.YthdpkfddmkijlaaGreatDoor

/- identityref02.ReadInt computes readIntP. -/
namespace Go.Proofs.YthdpkfddmkijlaaGreatDoor
open Go.RowKit

theorem val_take {t : ByteArray} {k : Nat} (h : k < t.size) : valL (t.data.toList.take (k + 1)) = valL (t.data.toList.take k) * 10 + (t[k].toNat - 48) := by
  have hl : k < t.data.toList.length := by simpa using h
  rw [List.take_succ_eq_append_getElem hl, valL_eq, valF_append, ← valL_eq]; rfl
theorem val_all (l : List UInt8) (k : Nat) : valL (l.take k) ≤ valL l := by
  have e : valL l = valF (valL (l.take k)) (l.drop k) := by
    rw [valL_eq (l.take k), ← valF_append, List.take_append_drop]; rfl
  rw [e]; exact valF_ge _ _
theorem notIn {v : Nat} (h : 9223372036854775808 < v) : ¬ inInt (v : Int) ∧ ¬ inInt (-(v : Int)) := by unfold inInt; omega
theorem notIn2 : ¬ inInt ((9223372036854775808 : Nat) : Int) := by unfold inInt; omega
theorem yesIn {v : Nat} (h : v ≤ 9223372036854775808) : inInt (-(v : Int)) := by unfold inInt; omega
theorem yesIn2 {v : Nat} (h : v ≤ 9223372036854775808) (h2 : v ≠ 9223372036854775808) : inInt (v : Int) := by unfold inInt; omega

/-- The number of a form by what stands behind the sign. -/
theorem int_minus {s : ByteArray} (h : 0 < s.size) (h45 : s[0].toNat = 45) : intForm s.data.toList = decL (s.extract 1 s.size).data.toList false ∧ intVal s.data.toList = -(valL (s.extract 1 s.size).data.toList : Int) := by
  have e : s.data.toList = 45 :: (s.extract 1 s.size).data.toList := by
    rw [ext_back]
    have := head_of h
    rw [this]
    congr 1
    exact UInt8.toNat_inj.1 (by rw [h45]; rfl)
  rw [e, intForm, intVal, if_pos rfl, if_pos rfl]
  exact ⟨rfl, rfl⟩
theorem int_plus {s : ByteArray} (h : 0 < s.size) (h45 : s[0].toNat ≠ 45) : intForm s.data.toList = decL s.data.toList true ∧ intVal s.data.toList = (valL s.data.toList : Int) := by
  have e := head_of h
  have hne : ¬ s[0] = 45 := fun he => h45 (by rw [he]; rfl)
  rw [e, intForm, intVal, if_neg hne, if_neg hne]
  exact ⟨rfl, rfl⟩

set_option maxHeartbeats 4000000 in
set_option maxRecDepth 100000 in
theorem rreadint_any (s : ByteArray) (w : World) (hs : s.size ≤ 1000000) :
    Calls Tryz.prog 57 #[.string s] w fun e w' => e = .returned (.tuple #[.int .i64 (readIntP s).1, .int .i64 (readIntP s).2]) ∧ Below w.heap.size w w' := by
  by_cases h0 : s.size = 0
  · obtain rfl : s = ⟨#[]⟩ := by
      apply ByteArray.ext; apply Array.toList_inj.1
      exact List.eq_nil_of_length_eq_zero (by simpa using h0)
    have hG := Lib.hid (readInt_form (s := ⟨#[]⟩) rfl)
    have hdc : Hid (decL (⟨#[]⟩ : ByteArray).data.toList true = false) := Lib.hid rfl
    clear h0
    go_enter Tryz.func57, Tryz.ntmps57
    go_wp2_with fail
    refine (decimal_form ⟨#[]⟩ true _ (by decide)).mono ?_
    rintro e w1 ⟨rfl, rfl⟩
    rw [hdc.out]
    go_wp2_with fail
    go_ret2
    exact ⟨ret_pp hG.out, Below.refl _ _⟩
  · have hp : 0 < s.size := by omega
    clear h0
    have hcs : (∃ t : ByteArray, t = s.extract 1 s.size ∧ ((s[0].toNat : Int) == 45) = true ∧ intForm s.data.toList = decL t.data.toList false ∧ intVal s.data.toList = -(valL t.data.toList : Int)) ∨ (((s[0].toNat : Int) == 45) = false ∧ intForm s.data.toList = decL s.data.toList true ∧ intVal s.data.toList = (valL s.data.toList : Int)) := by
      by_cases h45 : s[0].toNat = 45
      · exact .inl ⟨_, rfl, by rw [h45]; rfl, int_minus hp h45⟩
      · exact .inr ⟨by rw [beq_eq_false_iff_ne]; omega, int_plus hp h45⟩
    rcases hcs with ⟨t, rfl, hb, hf, hv⟩ | ⟨hb, hf, hv⟩
    · have hF : Hid (decL (s.extract 1 s.size).data.toList false = false → readIntP s = (0, 4)) := Lib.hid (fun h => readInt_form (hf.trans h))
      have hO : Hid (decL (s.extract 1 s.size).data.toList false = true → ¬ inInt (-(valL (s.extract 1 s.size).data.toList : Int)) → readIntP s = (0, 27)) := Lib.hid (fun h hr => readInt_range (hf.trans h) (by rw [hv]; exact hr))
      have hK : Hid (decL (s.extract 1 s.size).data.toList false = true → inInt (-(valL (s.extract 1 s.size).data.toList : Int)) → readIntP s = (-(valL (s.extract 1 s.size).data.toList : Int), 0)) := Lib.hid (fun h hr => by rw [readInt_ok (hf.trans h) (by rw [hv]; exact hr), hv])
      clear hf hv
      generalize readIntP s = Z at *
      have hdf := fun wq => decimal_form (s.extract 1 s.size) false wq (by have : (s.extract 1 s.size).size ≤ s.size := (by simp [ByteArray.size_extract]); omega)
      cases hdc : decL ((s.extract 1 s.size)).data.toList false with
      | false =>
        have hG := Lib.hid (hF.out hdc)
        simp only [hdc] at hdf
        clear hdc
        go_enter Tryz.func57, Tryz.ntmps57
        go_wp2_with fail
        refine (Calls.mono (hdf _) ?_)
        rintro e w1 ⟨rfl, rfl⟩
        go_wp2_with fail
        go_ret2
        exact ⟨ret_pp hG.out, Below.refl _ _⟩
      | true =>
        have HDg := Lib.hid (decL_digits hdc).2
        have HO := Lib.hid (hO.out hdc)
        have HK := Lib.hid (hK.out hdc)
        simp only [hdc] at hdf
        clear hdc hF hO hK
        go_enter Tryz.func57, Tryz.ntmps57
        go_wp2_with fail
        refine (Calls.mono (hdf _) ?_)
        rintro e w1 ⟨rfl, rfl⟩
        go_wp2_with fail
        generalize ht : s.extract 1 s.size = t at *
        have htz : t.size ≤ s.size := by rw [← ht]; simp [ByteArray.size_extract]
        clear ht
        go_loop [7, 8, 9] (fun n i _ => ∃ k m : Nat, k ≤ t.size ∧ i = .int .i64 k ∧ n = .int .i64 (-(m : Int)) ∧ m ≤ 9223372036854775808 ∧ Hid (valL (t.data.toList.take k) = m)) (fun _ i _ => t.size - (intOf i).toNat)
        case atStart => exact ⟨0, 0, Nat.zero_le _, rfl, rfl, by omega, Lib.hid rfl⟩
        case round =>
          obtain ⟨k, m, hk, rfl, rfl, hm, HM⟩ := hrel
          by_cases hlt : k < t.size
          · have hdg := HDg.out _ (List.getElem_mem (show k < t.data.toList.length by simpa using hlt))
            have HV := Lib.hid (val_take hlt)
            have HW := Lib.hid (val_all t.data.toList (k + 1))
            obtain ⟨c, hc⟩ : ∃ c, t[k].toNat = c := ⟨_, rfl⟩
            have hc1 : 48 ≤ c ∧ c ≤ 57 := hc ▸ hdg
            have HC := Lib.hid hc
            obtain ⟨d, rfl⟩ : ∃ d, c = 48 + d := ⟨c - 48, by omega⟩
            have hd9 : d ≤ 9 := by omega
            clear hdg hc1
            have e1 : (48 : Int) + (d : Int) - 48 = (d : Int) := by omega
            obtain ⟨q, hq⟩ : ∃ q, (9223372036854775808 - d) / 10 = q := ⟨_, rfl⟩
            have HQ := Lib.hid hq
            have hq0 : q ≤ 922337203685477580 := by omega
            have e2 : (-9223372036854775808 + (d : Int)).tdiv 10 = -(q : Int) := by
              rw [show -9223372036854775808 + (d : Int) = -((9223372036854775808 - d : Nat) : Int) by omega, Int.neg_tdiv, Int.tdiv_eq_ediv_of_nonneg (by omega), ← hq]; rfl
            clear hq
            by_cases hlim : q < m
            · have hG := Lib.hid (HO.out (by
                have h1 := HV.out
                have h2 := HW.out
                have h3 := HQ.out
                rw [HM.out, HC.out] at h1
                have := notIn (v := valL t.data.toList) (by omega)
                exact this.2))
              go_wp2_with fail
              go_ret2
              exact ⟨ret_pp hG.out, Below.refl _ _⟩
            · have hm10 : 10 * m + d ≤ 9223372036854775808 := by have := HQ.out; omega
              have hl2 : m ≤ q := by omega
              have hl3 : ¬ -(m : Int) < -(q : Int) := by omega
              clear hlim
              have HM1 : Hid (valL (t.data.toList.take (k + 1)) = 10 * m + d) := Lib.hid (by
                have h1 := HV.out
                rw [HM.out, HC.out] at h1
                omega)
              go_wp2_with fail
              exact ⟨⟨k + 1, 10 * m + d, hlt, by go_num, congrArg (Value.int .i64) (by omega), hm10, HM1⟩, by simp [intOf]; omega⟩
          · have HM1 : Hid (valL t.data.toList = m) := Lib.hid (by have h := HM.out; rwa [List.take_of_length_le (by simp; have : t.size = t.data.size := rfl; omega)] at h)
            have hG := Lib.hid (HK.out (by rw [HM1.out]; exact yesIn hm))
            rw [HM1.out] at hG
            go_wp2_with fail
            go_ret2
            exact ⟨ret_pp hG.out, Below.refl _ _⟩
    · have hF : Hid (decL s.data.toList true = false → readIntP s = (0, 4)) := Lib.hid (fun h => readInt_form (hf.trans h))
      have hO : Hid (decL s.data.toList true = true → ¬ inInt (valL s.data.toList : Int) → readIntP s = (0, 27)) := Lib.hid (fun h hr => readInt_range (hf.trans h) (by rw [hv]; exact hr))
      have hK : Hid (decL s.data.toList true = true → inInt (valL s.data.toList : Int) → readIntP s = ((valL s.data.toList : Int), 0)) := Lib.hid (fun h hr => by rw [readInt_ok (hf.trans h) (by rw [hv]; exact hr), hv])
      clear hf hv
      generalize readIntP s = Z at *
      have hdf := fun wq => decimal_form s true wq (by skip; omega)
      cases hdc : decL (s).data.toList true with
      | false =>
        have hG := Lib.hid (hF.out hdc)
        simp only [hdc] at hdf
        clear hdc
        go_enter Tryz.func57, Tryz.ntmps57
        go_wp2_with fail
        refine (Calls.mono (hdf _) ?_)
        rintro e w1 ⟨rfl, rfl⟩
        go_wp2_with fail
        go_ret2
        exact ⟨ret_pp hG.out, Below.refl _ _⟩
      | true =>
        have HDg := Lib.hid (decL_digits hdc).2
        have HO := Lib.hid (hO.out hdc)
        have HK := Lib.hid (hK.out hdc)
        simp only [hdc] at hdf
        clear hdc hF hO hK
        go_enter Tryz.func57, Tryz.ntmps57
        go_wp2_with fail
        refine (Calls.mono (hdf _) ?_)
        rintro e w1 ⟨rfl, rfl⟩
        go_wp2_with fail
        go_loop [7, 8, 9] (fun n i _ => ∃ k m : Nat, k ≤ s.size ∧ i = .int .i64 k ∧ n = .int .i64 (-(m : Int)) ∧ m ≤ 9223372036854775808 ∧ Hid (valL (s.data.toList.take k) = m)) (fun _ i _ => s.size - (intOf i).toNat)
        case atStart => exact ⟨0, 0, Nat.zero_le _, rfl, rfl, by omega, Lib.hid rfl⟩
        case round =>
          obtain ⟨k, m, hk, rfl, rfl, hm, HM⟩ := hrel
          by_cases hlt : k < s.size
          · have hdg := HDg.out _ (List.getElem_mem (show k < s.data.toList.length by simpa using hlt))
            have HV := Lib.hid (val_take hlt)
            have HW := Lib.hid (val_all s.data.toList (k + 1))
            obtain ⟨c, hc⟩ : ∃ c, s[k].toNat = c := ⟨_, rfl⟩
            have hc1 : 48 ≤ c ∧ c ≤ 57 := hc ▸ hdg
            have HC := Lib.hid hc
            obtain ⟨d, rfl⟩ : ∃ d, c = 48 + d := ⟨c - 48, by omega⟩
            have hd9 : d ≤ 9 := by omega
            clear hdg hc1
            have e1 : (48 : Int) + (d : Int) - 48 = (d : Int) := by omega
            obtain ⟨q, hq⟩ : ∃ q, (9223372036854775808 - d) / 10 = q := ⟨_, rfl⟩
            have HQ := Lib.hid hq
            have hq0 : q ≤ 922337203685477580 := by omega
            have e2 : (-9223372036854775808 + (d : Int)).tdiv 10 = -(q : Int) := by
              rw [show -9223372036854775808 + (d : Int) = -((9223372036854775808 - d : Nat) : Int) by omega, Int.neg_tdiv, Int.tdiv_eq_ediv_of_nonneg (by omega), ← hq]; rfl
            clear hq
            by_cases hlim : q < m
            · have hG := Lib.hid (HO.out (by
                have h1 := HV.out
                have h2 := HW.out
                have h3 := HQ.out
                rw [HM.out, HC.out] at h1
                have := notIn (v := valL s.data.toList) (by omega)
                exact this.1))
              go_wp2_with fail
              go_ret2
              exact ⟨ret_pp hG.out, Below.refl _ _⟩
            · have hm10 : 10 * m + d ≤ 9223372036854775808 := by have := HQ.out; omega
              have hl2 : m ≤ q := by omega
              have hl3 : ¬ -(m : Int) < -(q : Int) := by omega
              clear hlim
              have HM1 : Hid (valL (s.data.toList.take (k + 1)) = 10 * m + d) := Lib.hid (by
                have h1 := HV.out
                rw [HM.out, HC.out] at h1
                omega)
              go_wp2_with fail
              exact ⟨⟨k + 1, 10 * m + d, hlt, by go_num, congrArg (Value.int .i64) (by omega), hm10, HM1⟩, by simp [intOf]; omega⟩
          · have HM1 : Hid (valL s.data.toList = m) := Lib.hid (by have h := HM.out; rwa [List.take_of_length_le (by simp; have : s.size = s.data.size := rfl; omega)] at h)
            by_cases hl : m = 9223372036854775808
            · have hG := Lib.hid (HO.out (by rw [HM1.out, hl]; exact notIn2))
              have hb2 : ((-(m : Int)) == -9223372036854775808) = true := by rw [beq_iff_eq]; omega
              clear hl
              go_wp2_with fail
              go_ret2
              exact ⟨ret_pp hG.out, Below.refl _ _⟩
            · have hG := Lib.hid (HK.out (by rw [HM1.out]; exact yesIn2 hm hl))
              rw [HM1.out] at hG
              have hb2 : ((-(m : Int)) == -9223372036854775808) = false := by rw [beq_eq_false_iff_ne]; omega
              have hm2 : m < 9223372036854775808 := by omega
              clear hl
              go_wp2_with fail
              go_ret2
              exact ⟨ret_pp hG.out, Below.refl _ _⟩
end Go.Proofs.YthdpkfddmkijlaaGreatDoor

/- identityref02.Split computes splitS, splitErr. -/
namespace Go.Proofs.YthdpkfddmkijlaaGreatDoor
open Go.RowKit

set_option maxHeartbeats 4000000 in
set_option maxRecDepth 100000 in
theorem rsplit_any (s : ByteArray) (w : World) (hs : s.size ≤ 1000000) :
    Calls Tryz.prog 56 #[.string s] w fun e w' => RetStrs2 w.heap.size w' e (splitS s) (splitErr s) ∧ Below w.heap.size w w' := by
  obtain ⟨i0, hi, hz0, hz1, hz2⟩ := info_parts Tryz.info_s
  go_enter Tryz.func56, Tryz.ntmps56
  by_cases h1 : s = ⟨#[45]⟩
  · subst h1
    have hG := Lib.hid (split_some splitO_dash)
    go_wp2_with fail
    go_ret2
    exact ⟨⟨none, 0, by rw [hG.out.1, hG.out.2]; rfl, by rw [hG.out.1]; exact Strs.nil_ _ _, (fun p h => by cases h), by rw [hG.out.1]; exact Nat.le_refl _⟩, Below.refl _ _⟩
  · have hd1 := dash_ne' h1
    by_cases h2 : s = ⟨#[37, 50, 68]⟩
    · subst h2
      have hG := Lib.hid (split_some splitO_2d)
      clear hd1 h1
      go_wp2_with fail
      go_ret2
      refine ⟨⟨some ⟨w.heap.size, 0, none⟩, 1, by rw [hG.out.1, hG.out.2]; rfl, ?_, (fun p h => by cases h; exact Nat.le_refl _), by rw [hG.out.1]; exact Nat.le_refl _⟩, (Below.refl _ _).alloc (Nat.le_refl _) _⟩
      rw [hG.out.1]
      intro i hi
      have hi0 : i = 0 := by simpa using hi
      subst hi0
      exact ⟨w.heap.size, 0, rfl, by simp [go_sem]⟩
    · have hd2 : (s.toList == [37, 50, 68]) = false := by
        have := str_ne h2
        rwa [show (⟨#[37, 50, 68]⟩ : ByteArray).toList = [37, 50, 68] by rw [Lib.toList_data]] at this
      have HO := Lib.hid (splitO_else h1 h2)
      clear h1 h2
      have hle := cutsS_le s 124
      have HZ := Lib.hid (cuts_size (s := s) (c := 124))
      go_wp2_with fail
      refine (rcut_any s 124 w (by omega)).mono ?_
      rintro e w1 ⟨⟨A, cap, rfl, hS1, hA1⟩, hb1⟩
      obtain ⟨N, hN⟩ : ∃ N, (cutsS s 124).length = N := ⟨_, rfl⟩
      rw [hN] at hle
      have HN := Lib.hid hN
      rw [hN]
      clear hN
      go_wp2_with fail
      go_loopw [5, 6, 7, 8] (fun v j _ _ wr => ∃ (k : Nat) (U : List ByteArray), k ≤ N ∧ j = .int .i64 k ∧ U.length = k ∧ wr.ownsRow w1.heap.size 9 1 v k (strVs U) ∧ Hid ((unAllO ((cutsS s 124).drop k)).map (U ++ ·) = splitO s) ∧ Below w1.heap.size w1 wr) (fun _ i _ _ _ => N - (intOf i).toNat)
      case atStart => exact ⟨0, [], Nat.zero_le _, rfl, rfl, World.ownsRow_nil _ _ _ _, Lib.hid (by rw [HO.out]; simp), Below.refl _ _⟩
      case round =>
        obtain ⟨k, U, hk, rfl, hU, hown, HP, hbr⟩ := hrel
        by_cases hlt : k < N
        · have hlt2 : k < (cutsS s 124).length := by rw [HN.out]; exact hlt
          obtain ⟨b, o, rfl, hcell⟩ := (hS1.below hbr) k hlt2
          have hsz := HZ.out _ (List.getElem_mem hlt2)
          have HA : Hid (unescO (cutsS s 124)[k] = none → splitO s = none) := Lib.hid (fun h => all_none hlt2 h HP.out)
          have HB : Hid (∀ t, unescO (cutsS s 124)[k] = some t → (unAllO ((cutsS s 124).drop (k + 1))).map ((U ++ [t]) ++ ·) = splitO s) := Lib.hid (fun t h => all_step hlt2 h HP.out)
          have HU := Lib.hid hU
          have HL2 := Lib.hid hlt2
          generalize (cutsS s 124)[k] = x at hcell hsz HA HB
          have hun := runesc_any x wr (by omega)
          rcases unesc_case x with ⟨hx1, hx2, hx3⟩ | ⟨t, hx1, hx2, hx3⟩
          · rw [hx2, hx3] at hun
            have hG := Lib.hid (split_none (HA.out hx1))
            clear hx1 hx2 hx3 hU hlt2
            go_wp2_with fail
            refine hun.mono ?_
            rintro e w2 ⟨rfl, hb2⟩
            go_wp2_with fail
            go_ret2
            exact ⟨⟨none, 0, by rw [hG.out.1, hG.out.2]; rfl, by rw [hG.out.1]; exact Strs.nil_ _ _, (fun p h => by cases h), by rw [hG.out.1]; exact Nat.le_refl _⟩, bthen hb1 (bthen hbr hb2)⟩
          · rw [hx2, hx3] at hun
            have HP1 := Lib.hid (HB.out t hx1)
            clear hx1 hx2 hx3 hU hlt2
            go_wp2_with fail
            refine hun.mono ?_
            rintro e w2 ⟨rfl, hb2⟩
            have hown2 := own_below hown hb2
            have hbr2 := bthen hbr hb2
            go_wp2_with (at_builtin; refine wpList_append_own _ rfl _ _ 33 rfl w1.heap.size 9 i0 (.string ByteArray.empty) 1 16 Tryz.underlying33 hi hz0 hz1 hz2 rfl (by decide) _ _ _ rfl (hown2.alloc _) ⟨w2.heap.size, 0, none⟩ 1 1 [strV t] rfl rfl (cell_one_new _ _ _) (by intro u hu; simp at hu; subst hu; rfl) (by unfold maxLen; omega) (by omega) (by have := hbr2.size; simp; omega) ?_; intro v' w3 hown3 hg3 _)
            have HBw : Hid (Below w1.heap.size w1 w3) := Lib.hid ((hbr2.alloc hbr2.size _).grown hg3 (by have := hbr2.size; simp; omega) (fun q hq => (hown2.lt q hq).1))
            have HOw : Hid (w3.ownsRow w1.heap.size 9 1 v' (k + 1) (strVs (U ++ [t]))) := by
              show World.ownsRow _ _ _ _ _ _ _
              rw [← strVs_snoc]; exact hown3
            clear hown3 hg3
            go_wp2_with fail
            go_roundw
            case rel => exact ⟨k + 1, U ++ [t], hlt, by go_num, by rw [List.length_append, HU.out]; rfl, HOw.out, HP1, HBw.out⟩
            case measure => simp [intOf]; omega
        · have hG := Lib.hid (split_some (all_end (by rw [HN.out]; exact hlt) HP.out))
          go_wp2_with fail
          go_ret2
          refine ⟨?_, bthen hb1 hbr⟩
          rw [hG.out.1, hG.out.2]
          obtain ⟨A', c', e', q1, q2, q3⟩ := RetStrs2.own (c := 0) hown hU (strVs_at U)
          exact ⟨A', c', e', q1, (fun p hp => Nat.le_trans hb1.size (q2 p hp)), q3⟩
end Go.Proofs.YthdpkfddmkijlaaGreatDoor

