/- identityref03.Strings and Proves. -/
import Derived.Test.YtnbdlehkadiepaaDoorDigProves2
namespace Go.Proofs.YtnbdlehkadiepaaDoor
open Go.RowKit

/-- The strings that are digested on the way, behind the leaf's, and what is left of the path. -/
def tailF : Nat → ByteArray → Nat → Nat → List ByteArray → Option (List ByteArray × List ByteArray)
  | 0, _, _, _, p => some ([], p)
  | f + 1, h, i, n, p =>
    if n ≤ 1 then some ([], p)
    else if i % 2 = 1 ∨ i + 1 < n then
      match p with
      | [] => none
      | a :: r => (tailF f (textS (if i % 2 = 1 then oneS ++ a ++ h else oneS ++ h ++ a)) (i / 2) (n / 2 + n % 2) r).map fun x => ((if i % 2 = 1 then oneS ++ a ++ h else oneS ++ h ++ a) :: x.1, x.2)
    else tailF f h (i / 2) (n / 2 + n % 2) p
/-- identityref03.Strings. -/
def stringsO (s : ByteArray) (i n : Int) (p : List ByteArray) : Option (List ByteArray × List ByteArray) :=
  if provesIn i n then (tailF n.toNat (leafS s) i.toNat n.toNat p).map fun x => ((zeroS ++ s) :: x.1, x.2) else none
def stringsL (s : ByteArray) (i n : Int) (p : List ByteArray) : List ByteArray := match stringsO s i n p with | none => [] | some x => x.1
def stringsB (s : ByteArray) (i n : Int) (p : List ByteArray) : Bool := match stringsO s i n p with | none => false | some x => decide (x.2 = [])
theorem tailF_end (f : Nat) (h : ByteArray) (i n : Nat) (p : List ByteArray) (hn : n ≤ 1) : tailF f h i n p = some ([], p) := by
  cases f with
  | zero => rfl
  | succ f => unfold tailF; rw [if_pos hn]
theorem tailF_lone (f : Nat) (h : ByteArray) (i n : Nat) (p : List ByteArray) (hn : 1 < n) (hf : n ≤ f) (hi : i % 2 = 0) (hl : ¬ i + 1 < n) : ∃ f', n / 2 + n % 2 ≤ f' ∧ tailF f h i n p = tailF f' h (i / 2) (n / 2 + n % 2) p := by
  cases f with
  | zero => omega
  | succ f => exact ⟨f, by omega, by rw [tailF.eq_def]; simp only; rw [if_neg (by omega), if_neg (by omega)]⟩
theorem tailF_none (f : Nat) (h : ByteArray) (i n : Nat) (hn : 1 < n) (hf : n ≤ f) (hi : i % 2 = 1 ∨ i + 1 < n) : tailF f h i n [] = none := by
  cases f with
  | zero => omega
  | succ f => rw [tailF, if_neg (by omega), if_pos hi]
theorem tailF_odd (f : Nat) (h : ByteArray) (i n : Nat) (a : ByteArray) (r : List ByteArray) (hn : 1 < n) (hf : n ≤ f) (hi : i % 2 = 1) : ∃ f', n / 2 + n % 2 ≤ f' ∧ tailF f h i n (a :: r) = (tailF f' (textS (oneS ++ a ++ h)) (i / 2) (n / 2 + n % 2) r).map fun x => ((oneS ++ a ++ h) :: x.1, x.2) := by
  cases f with
  | zero => omega
  | succ f => exact ⟨f, by omega, by rw [tailF, if_neg (by omega), if_pos (Or.inl hi)]; simp [hi]⟩
theorem tailF_even (f : Nat) (h : ByteArray) (i n : Nat) (a : ByteArray) (r : List ByteArray) (hn : 1 < n) (hf : n ≤ f) (hi : i % 2 = 0) (hl : i + 1 < n) : ∃ f', n / 2 + n % 2 ≤ f' ∧ tailF f h i n (a :: r) = (tailF f' (textS (oneS ++ h ++ a)) (i / 2) (n / 2 + n % 2) r).map fun x => ((oneS ++ h ++ a) :: x.1, x.2) := by
  cases f with
  | zero => omega
  | succ f => exact ⟨f, by omega, by rw [tailF, if_neg (by omega), if_pos (Or.inr hl)]; simp [hi]⟩
/-- Both ways of looking at a path agree. -/
theorem walk_tail (f : Nat) : ∀ (t : ByteArray) (i n : Nat) (p : List ByteArray), walkF f (textS t) i n p = (tailF f (textS t) i n p).bind fun x => if x.2 = [] then some (textS ((t :: x.1).getLast (by simp))) else none := by
  induction f with
  | zero => intro t i n p; simp [walkF, tailF]
  | succ f ih =>
    intro t i n p
    by_cases hn : n ≤ 1
    · rw [walkF_end _ _ _ _ _ hn, tailF_end _ _ _ _ _ hn]; simp
    · by_cases hs : i % 2 = 1 ∨ i + 1 < n
      · cases p with
        | nil => rw [walkF, if_neg hn, if_pos hs, tailF, if_neg hn, if_pos hs]; rfl
        | cons a r =>
          rw [walkF, if_neg hn, if_pos hs, tailF, if_neg hn, if_pos hs]
          by_cases hi : i % 2 = 1
          · simp only [if_pos hi, if_neg (show ¬ i % 2 = 0 by omega), nodeS]
            rw [ih]
            cases tailF f (textS (oneS ++ a ++ textS t)) (i / 2) (n / 2 + n % 2) r <;> simp
          · simp only [if_neg hi, if_pos (show i % 2 = 0 by omega), nodeS]
            rw [ih]
            cases tailF f (textS (oneS ++ textS t ++ a)) (i / 2) (n / 2 + n % 2) r <;> simp
      · rw [walkF.eq_def, tailF.eq_def]
        simp only [if_neg hn, if_neg hs]
        exact ih t (i / 2) (n / 2 + n % 2) p
theorem getLast_getD (a : ByteArray) : ∀ (l : List ByteArray), (a :: l).getLast (List.cons_ne_nil a l) = l.getLast?.getD a
  | [] => rfl
  | b :: l => by
    rw [List.getLast_cons (List.cons_ne_nil b l), getLast_getD b l, List.getLast?_cons]
    rfl
theorem proves_strings (root s : ByteArray) (i n : Int) (p : List ByteArray) : provesS root s i n p = match stringsO s i n p with | none => false | some x => decide (x.2 = [] ∧ textS (x.1.getLast?.getD ByteArray.empty) = root) := by
  unfold provesS stringsO
  cases hin : provesIn i n with
  | false => simp
  | true =>
    rw [if_pos rfl, Bool.true_and]
    have := walk_tail n.toNat (zeroS ++ s) i.toNat n.toNat p
    rw [show textS (zeroS ++ s) = leafS s from rfl] at this
    rw [this]
    cases tailF n.toNat (leafS s) i.toNat n.toNat p with
    | none => simp
    | some x =>
      by_cases hx : x.2 = []
      · have e : (((zeroS ++ s) :: x.1).getLast?.getD ByteArray.empty) = x.1.getLast?.getD (zeroS ++ s) := by
          rw [List.getLast?_cons]; rfl
        simp only [Option.bind_some, Option.map_some, hx, true_and, if_true, Option.some.injEq, e, getLast_getD]
      · simp [hx]

theorem tail_step {T : ByteArray} {O : List ByteArray} (o : Option (List ByteArray × List ByteArray)) : (o.map fun x => (T :: x.1, x.2)).map (fun x => (O ++ x.1, x.2)) = o.map fun x => ((O ++ [T]) ++ x.1, x.2) := by
  cases o <;> simp
theorem strs_len {P : List ByteArray} {x : ByteArray} {n : Nat} (h : P.length ≤ n) : (P ++ [x]).length ≤ n + 1 := by simp; omega
/-- What identityref03.Strings hands back. -/
def RetStrsB (w' : World) (e : Ending) (l : List ByteArray) (ok : Bool) : Prop := ∃ A cap, e = .returned (.tuple #[.slice A l.length cap, .bool ok]) ∧ Strs w' A l
theorem RetStrsB.own {w : World} {base e n : Nat} {v : Value} {xs : List Value} {l : List ByteArray} {ok : Bool} (h : w.ownsRow base e 1 v n xs) (hn : l.length = n)
    (hx : ∀ j, (h : j < l.length) → xs[j]? = some (.string l[j])) : RetStrsB w (.returned (.tuple #[v, .bool ok])) l ok := by
  obtain ⟨A, cap, hv, h1, h2⟩ := RetStrs.own h hn hx
  injection hv with hv
  subst hv
  exact ⟨A, cap, rfl, h1⟩

set_option maxHeartbeats 1600000 in
theorem strings_any (s : ByteArray) (i n : Int) (p : List ByteArray) (A : Option Addr) (c : Nat) (w : World) (hS : Strs w A p) (hl : p.length ≤ 1000000) (hz : ∀ s ∈ p, s.size ≤ 1000000) (hs : s.size ≤ 1000000) (hn : n ≤ 9223372036854775807) :
    Calls Tryd.prog 34 #[.string s, .int .i64 i, .int .i64 n, .slice A p.length c] w fun e w' => RetStrsB w' e (stringsL s i n p) (stringsB s i n p) ∧ Below w.heap.size w w' := by
  by_cases h0 : 0 ≤ i ∧ i < n
  · have HE : Hid (stringsO s i n p = (tailF n.toNat (leafS s) i.toNat n.toNat p).map fun x => ((zeroS ++ s) :: x.1, x.2)) := by show _ = _; rw [stringsO, provesIn, if_pos (by simpa using h0)]
    obtain ⟨h0, h1⟩ := h0
    obtain ⟨i, rfl⟩ := Int.eq_ofNat_of_zero_le h0
    obtain ⟨n, rfl⟩ := Int.eq_ofNat_of_zero_le (show 0 ≤ n by omega)
    rw [Int.toNat_natCast, Int.toNat_natCast] at HE
    have HR := Lib.hid (leafS_room s hs)
    have ht := Nat.le_of_eq (textS_size (⟨#[48]⟩ ++ s))
    have HZ := Lib.hid hz
    have HS := Lib.hid hS
    have hn' : n ≤ 9223372036854775807 := by omega
    have h1' : i < n := by omega
    obtain ⟨i0, hi, hz0, hz1, hz2⟩ := info_parts Tryd.info_s
    clear hz hn h0 h1 hS
    go_enter Tryd.func34, Tryd.ntmps34
    go_wp2_with (go_at_call 17; refine (rtext_any _ _ HR.out).mono ?_; rintro e w1 ⟨rfl, rfl⟩)
    have HO1 := Lib.hid (World.ownsRow_lit (base := w.heap.size) (e := 9) (size := 1) w #[.string (zeroS ++ s)] 1 (Nat.le_refl _) (by decide) rfl)
    have HB1 := Lib.hid ((Below.refl w.heap.size w).alloc (Nat.le_refl _) (.cells #[.string (zeroS ++ s)] 9))
    go_loopw [1, 2, 10, 11, 12] (fun iv nv v hv uv wr => ∃ (j m u : Nat) (h : ByteArray) (O : List ByteArray) (f : Nat), iv = .int .i64 (j : Int) ∧ nv = .int .i64 (m : Int) ∧ hv = .string h ∧ uv = .int .i64 (u : Int) ∧ wr.ownsRow w.heap.size 9 1 v O.length (strVs O) ∧ j < m ∧ m ≤ 9223372036854775807 ∧ h.size ≤ 16 ∧ u ≤ p.length ∧ O.length ≤ u + 1 ∧ m ≤ f ∧ (tailF f h j m (p.drop u)).map (fun x => (O ++ x.1, x.2)) = stringsO s (i : Int) (n : Int) p ∧ Below w.heap.size w wr) (fun _ nv _ _ _ _ => (intOf nv).toNat)
    case atStart => exact ⟨i, n, 0, _, [zeroS ++ s], n, rfl, rfl, rfl, rfl, HO1.out, h1', hn', ht, Nat.zero_le _, Nat.le_refl _, Nat.le_refl _, HE.out.symm, HB1.out⟩
    case round =>
      obtain ⟨j, m, u, h, O, f, rfl, rfl, rfl, rfl, hown, hjm, hm, hh, hup, hO, hf2, hw2, hbr⟩ := hrel
      clear hn' h1' ht
      have hgt := hbr.size
      by_cases hlt : 1 < m
      · by_cases hpar : j % 2 = 0
        · have hpb : ((j : Int) % 2 == 1) = false := by rw [beq_eq_false_iff_ne]; omega
          by_cases hsib : j + 1 < m
          · -- the sibling on the right
            by_cases hu : u < p.length
            · obtain ⟨f', hf', hw'⟩ := tailF_even f h j m p[u] (p.drop (u + 1)) hlt hf2 hpar hsib
              have HW : Hid ((tailF f' (textS (oneS ++ h ++ p[u])) (j / 2) (m / 2 + m % 2) (p.drop (u + 1))).map (fun x => ((O ++ [oneS ++ h ++ p[u]]) ++ x.1, x.2)) = stringsO s (i : Int) (n : Int) p) := by
                show _ = _
                rw [← hw2, List.drop_eq_getElem_cons hu, hw', tail_step]
              obtain ⟨b, o, rfl, hc⟩ := (HS.out.below hbr) u hu
              have hlb := World.block_lt_of_cell? wr _ hc
              have hsa : p[u].size ≤ 1000000 := HZ.out _ (List.getElem_mem hu)
              have HSN := Lib.hid (strVs_snoc O (oneS ++ h ++ p[u]))
              clear hw2 hw' hpar
              generalize p[u] = x at *
              have HR2 := Lib.hid (nodeS_room h x (by omega) hsa)
              go_wp2_with (first
                | (at_builtin; refine wpList_append_own _ rfl _ _ 35 rfl w.heap.size 9 i0 (.string ByteArray.empty) 1 16 Tryd.underlying35 hi hz0 hz1 hz2 rfl (by decide) _ _ _ rfl (hown.alloc _) ⟨wr.heap.size, 0, none⟩ 1 1 [strV (⟨#[49]⟩ ++ h ++ x)] rfl rfl (cell_one_new _ _ _) (by intro u hu; simp at hu; subst hu; rfl) (by unfold maxLen; omega) (by omega) (by simp; omega) ?_; intro v' w1 hown1 hg1 _)
                | (go_at_call 17; refine (rtext_any _ _ HR2.out).mono ?_; rintro e w2 ⟨rfl, rfl⟩))
              have HB : Hid (Below w.heap.size w w1) := (hbr.alloc hgt _).grown hg1 (by simp; omega) (fun q hq => (hown.lt q hq).1)
              have HO : Hid (w1.ownsRow w.heap.size 9 1 v' (O ++ [oneS ++ h ++ x]).length (strVs (O ++ [oneS ++ h ++ x]))) := by
                show World.ownsRow _ _ _ _ _ _ _
                rw [← HSN.out, List.length_append]; exact hown1
              have HT : Hid ((textS (⟨#[49]⟩ ++ h ++ x)).size ≤ 16) := Nat.le_of_eq (textS_size _)
              have HLN := Lib.hid (strs_len (x := oneS ++ h ++ x) hO)
              clear hown1 hg1
              go_roundw
              case rel => exact ⟨j / 2, m / 2 + m % 2, u + 1, textS (oneS ++ h ++ x), O ++ [oneS ++ h ++ x], f', by go_num, by go_num, rfl, by go_num, HO.out, by omega, by omega, HT.out, by omega, HLN.out, hf', HW.out, HB.out⟩
              case measure => simp [intOf]; omega
            · have HN : Hid (stringsO s (i : Int) (n : Int) p = none) := by
                show _ = _
                rw [← hw2, List.drop_of_length_le (by omega), tailF_none f h j m hlt hf2 (Or.inr hsib)]; rfl
              have HL : Hid (stringsL s (i : Int) (n : Int) p = []) := by show _ = _; rw [stringsL, HN.out]
              have HB : Hid (stringsB s (i : Int) (n : Int) p = false) := by show _ = _; rw [stringsB, HN.out]
              clear hw2 hpar
              go_wp2
              go_ret2
              rw [HL.out, HB.out]
              exact ⟨⟨none, 0, rfl, Strs.nil_ _ _⟩, hbr⟩
          · obtain ⟨f', hf', hw'⟩ := tailF_lone f h j m (p.drop u) hlt hf2 hpar hsib
            have HW : Hid ((tailF f' h (j / 2) (m / 2 + m % 2) (p.drop u)).map (fun x => (O ++ x.1, x.2)) = stringsO s (i : Int) (n : Int) p) := by show _ = _; rw [← hw', hw2]
            clear hw2 hw' hpar
            go_wp2
            go_roundw
            case rel => exact ⟨j / 2, m / 2 + m % 2, u, h, O, f', by go_num, by go_num, rfl, rfl, hown, by omega, by omega, hh, hup, hO, hf', HW.out, hbr⟩
            case measure => simp [intOf]; omega
        · have hpb : ((j : Int) % 2 == 1) = true := by rw [beq_iff_eq]; omega
          by_cases hu : u < p.length
          · obtain ⟨f', hf', hw'⟩ := tailF_odd f h j m p[u] (p.drop (u + 1)) hlt hf2 (by omega)
            have HW : Hid ((tailF f' (textS (oneS ++ p[u] ++ h)) (j / 2) (m / 2 + m % 2) (p.drop (u + 1))).map (fun x => ((O ++ [oneS ++ p[u] ++ h]) ++ x.1, x.2)) = stringsO s (i : Int) (n : Int) p) := by
              show _ = _
              rw [← hw2, List.drop_eq_getElem_cons hu, hw', tail_step]
            obtain ⟨b, o, rfl, hc⟩ := (HS.out.below hbr) u hu
            have hlb := World.block_lt_of_cell? wr _ hc
            have hsa : p[u].size ≤ 1000000 := HZ.out _ (List.getElem_mem hu)
            have HSN := Lib.hid (strVs_snoc O (oneS ++ p[u] ++ h))
            clear hw2 hw' hpar
            generalize p[u] = x at *
            have HR2 := Lib.hid (nodeS_room x h hsa (by omega))
            go_wp2_with (first
              | (at_builtin; refine wpList_append_own _ rfl _ _ 35 rfl w.heap.size 9 i0 (.string ByteArray.empty) 1 16 Tryd.underlying35 hi hz0 hz1 hz2 rfl (by decide) _ _ _ rfl (hown.alloc _) ⟨wr.heap.size, 0, none⟩ 1 1 [strV (⟨#[49]⟩ ++ x ++ h)] rfl rfl (cell_one_new _ _ _) (by intro u hu; simp at hu; subst hu; rfl) (by unfold maxLen; omega) (by omega) (by simp; omega) ?_; intro v' w1 hown1 hg1 _)
              | (go_at_call 17; refine (rtext_any _ _ HR2.out).mono ?_; rintro e w2 ⟨rfl, rfl⟩))
            have HB : Hid (Below w.heap.size w w1) := (hbr.alloc hgt _).grown hg1 (by simp; omega) (fun q hq => (hown.lt q hq).1)
            have HO : Hid (w1.ownsRow w.heap.size 9 1 v' (O ++ [oneS ++ x ++ h]).length (strVs (O ++ [oneS ++ x ++ h]))) := by
              show World.ownsRow _ _ _ _ _ _ _
              rw [← HSN.out, List.length_append]; exact hown1
            have HT : Hid ((textS (⟨#[49]⟩ ++ x ++ h)).size ≤ 16) := Nat.le_of_eq (textS_size _)
            have HLN := Lib.hid (strs_len (x := oneS ++ x ++ h) hO)
            clear hown1 hg1
            go_roundw
            case rel => exact ⟨j / 2, m / 2 + m % 2, u + 1, textS (oneS ++ x ++ h), O ++ [oneS ++ x ++ h], f', by go_num, by go_num, rfl, by go_num, HO.out, by omega, by omega, HT.out, by omega, HLN.out, hf', HW.out, HB.out⟩
            case measure => simp [intOf]; omega
          · have HN : Hid (stringsO s (i : Int) (n : Int) p = none) := by
              show _ = _
              rw [← hw2, List.drop_of_length_le (by omega), tailF_none f h j m hlt hf2 (Or.inl (by omega))]; rfl
            have HL : Hid (stringsL s (i : Int) (n : Int) p = []) := by show _ = _; rw [stringsL, HN.out]
            have HB : Hid (stringsB s (i : Int) (n : Int) p = false) := by show _ = _; rw [stringsB, HN.out]
            clear hw2 hpar
            go_wp2
            go_ret2
            rw [HL.out, HB.out]
            exact ⟨⟨none, 0, rfl, Strs.nil_ _ _⟩, hbr⟩
      · have HN : Hid (stringsO s (i : Int) (n : Int) p = some (O, p.drop u)) := by
          show _ = _
          rw [← hw2, tailF_end f h j m _ (by omega)]; simp
        have HL : Hid (stringsL s (i : Int) (n : Int) p = O) := by show _ = _; rw [stringsL, HN.out]
        have HB : Hid (stringsB s (i : Int) (n : Int) p = ((u : Int) == (p.length : Int))) := by
          show _ = _
          rw [stringsB, HN.out]
          rw [Bool.eq_iff_iff, decide_eq_true_iff, beq_iff_eq, List.drop_eq_nil_iff]
          omega
        clear hw2
        go_wp2
        go_ret2
        rw [HL.out, HB.out]
        exact ⟨RetStrsB.own hown rfl (strVs_at O), hbr⟩
  · have HE : Hid (stringsO s i n p = none) := by show _ = _; rw [stringsO, provesIn, if_neg (by simpa using h0)]
    have HL : Hid (stringsL s i n p = []) := by show _ = _; rw [stringsL, HE.out]
    have HB : Hid (stringsB s i n p = false) := by show _ = _; rw [stringsB, HE.out]
    have hcs : i < 0 ∨ (0 ≤ i ∧ n ≤ i) := by omega
    clear hz hS h0
    rcases hcs with h | ⟨h, h'⟩
    all_goals
      go_enter Tryd.func34, Tryd.ntmps34
      go_wp2
      go_ret2
      rw [HL.out, HB.out]
      exact ⟨⟨none, 0, rfl, Strs.nil_ _ _⟩, Below.refl _ _⟩
end Go.Proofs.YtnbdlehkadiepaaDoor
