/- Joined: CodList, CodStrs, Idx, CodSplitP, CodSplitS, CodEscW, CodRef64, CodRefEsc. -/
import Derived.Test.YthdpkfddmkijlaaGreatDoorSeg1
import Derived.WalkKit
import Derived.Lib.Bytealg
import Derived.Lib.IndexBytes
import Derived.Test.YthdpkfddmkijlaaGreatDoorShelf
import Derived.Laws.OwnMore
import Derived.IntWalk
import Derived.Deep.QuietTactic
import Derived.BigQuiet
import Derived.Laws.IdiomStrings
import Derived.Lib.BufferRead
import Derived.Deep.AppendLies
import Derived.Deep.RegionLaw
/- Plain functions for the layer codec: lists and pairs. No program in sight. -/
namespace Go.Proofs.YthdpkfddmkijlaaGreatDoor
open Go.RowKit

/-- The pieces of a list of bytes between the bytes c. -/
def cutL (c : UInt8) : List UInt8 → List (List UInt8)
  | [] => [[]]
  | x :: r => if x = c then [] :: cutL c r else match cutL c r with
    | [] => [[x]]
    | p :: ps => (x :: p) :: ps
/-- The pieces with a byte c between them. -/
def joinL (c : UInt8) : List (List UInt8) → List UInt8
  | [] => []
  | [p] => p
  | p :: q :: r => p ++ c :: joinL c (q :: r)
theorem cutL_ne (c : UInt8) (l : List UInt8) : cutL c l ≠ [] := by
  cases l with
  | nil => simp [cutL]
  | cons x r =>
    rw [cutL]
    split
    · simp
    · split <;> simp
theorem joinL_cons (c : UInt8) (p : List UInt8) (ps : List (List UInt8)) (h : ps ≠ []) : joinL c (p :: ps) = p ++ c :: joinL c ps := by
  cases ps with
  | nil => exact absurd rfl h
  | cons q r => rfl
theorem join_cut (c : UInt8) (l : List UInt8) : joinL c (cutL c l) = l := by
  induction l with
  | nil => rfl
  | cons x r ih =>
    rw [cutL]
    split
    · rename_i h; rw [joinL_cons c _ _ (cutL_ne c r), ih, h]; rfl
    · have hne := cutL_ne c r
      cases hc : cutL c r with
      | nil => exact absurd hc hne
      | cons p ps =>
        rw [hc] at ih
        cases ps with
        | nil => simp only [joinL] at ih ⊢; rw [ih]
        | cons q ps => rw [joinL_cons c _ _ (by simp)] at ih ⊢; rw [← ih]; rfl
theorem cutL_nil {c : UInt8} {l : List UInt8} (h : c ∉ l) : cutL c l = [l] := by
  induction l with
  | nil => rfl
  | cons x r ih =>
    rw [cutL, if_neg (fun e => h (by rw [e]; simp)), ih (fun hm => h (List.mem_cons_of_mem _ hm))]
theorem cutL_app {c : UInt8} {p : List UInt8} (h : c ∉ p) (l : List UInt8) : cutL c (p ++ c :: l) = p :: cutL c l := by
  induction p with
  | nil => simp [cutL]
  | cons x r ih =>
    rw [List.cons_append, cutL, if_neg (fun e => h (by rw [e]; simp)), ih (fun hm => h (List.mem_cons_of_mem _ hm))]
theorem cut_join {c : UInt8} : ∀ (ps : List (List UInt8)), ps ≠ [] → (∀ p ∈ ps, c ∉ p) → cutL c (joinL c ps) = ps
  | [], h, _ => absurd rfl h
  | [p], _, h => cutL_nil (h p (by simp))
  | p :: q :: r, _, h => by
    rw [joinL, cutL_app (h p (by simp)), cut_join (q :: r) (by simp) (fun x hx => h x (List.mem_cons_of_mem _ hx))]
theorem cutL_mem (c : UInt8) (l : List UInt8) : ∀ p ∈ cutL c l, c ∉ p := by
  induction l with
  | nil => intro p hp; simp [cutL] at hp; subst hp; simp
  | cons x r ih =>
    intro p hp
    rw [cutL] at hp
    split at hp
    · rw [List.mem_cons] at hp
      rcases hp with rfl | hp
      · simp
      · exact ih p hp
    · rename_i hx
      cases hc : cutL c r with
      | nil => exact absurd hc (cutL_ne c r)
      | cons q qs =>
        rw [hc] at hp ih
        simp only [List.mem_cons] at hp
        rcases hp with rfl | hp
        · intro hm
          rw [List.mem_cons] at hm
          rcases hm with hm | hm
          · exact hx hm.symm
          · exact ih q (by simp) hm
        · exact ih p (List.mem_cons_of_mem _ hp)
theorem escC_nosep (c d : UInt8) (h : plainB d = false) (h37 : d ≠ 37) : d ∉ escC c := by
  unfold escC
  split
  · rename_i hp
    intro hm
    simp at hm
    rw [hm, hp] at h; cases h
  · intro hm
    have hc := c.toNat_lt
    simp only [List.mem_cons, List.not_mem_nil, or_false] at hm
    rcases hm with hm | hm | hm
    · exact h37 hm
    · rw [hm, hexU_plain _ (by omega)] at h; cases h
    · rw [hm, hexU_plain _ (by omega)] at h; cases h
/-- A separator does not occur in an escaped form. -/
theorem escL_nosep (l : List UInt8) (d : UInt8) (h : plainB d = false) (h37 : d ≠ 37) : d ∉ escL l := by
  induction l with
  | nil => simp [escL]
  | cons c r ih =>
    rw [escL, List.mem_append]
    rintro (hm | hm)
    · exact escC_nosep c d h h37 hm
    · exact ih hm

/-- codec.Join on lists of bytes. -/
def joinE (l : List (List UInt8)) : List UInt8 := if l = [] then [45] else if l = [[45]] then [37, 50, 68] else joinL 124 (l.map escL)
/-- All pieces read. -/
def unAll : List (List UInt8) → Option (List (List UInt8))
  | [] => some []
  | p :: ps => (unE p 0).bind fun q => (unAll ps).map (q :: ·)
/-- codec.Split on lists of bytes. -/
def splitE (t : List UInt8) : Option (List (List UInt8)) := if t = [45] then some [] else if t = [37, 50, 68] then some [[45]] else unAll (cutL 124 t)
theorem unAll_esc (l : List (List UInt8)) : unAll (l.map escL) = some l := by
  induction l with
  | nil => rfl
  | cons p ps ih => rw [List.map_cons, unAll, unE_esc, Option.bind_some, ih]; rfl
theorem esc_unAll : ∀ (ps l : List (List UInt8)), unAll ps = some l → l.map escL = ps
  | [], l, h => by simp [unAll] at h; subst h; rfl
  | p :: ps, l, h => by
    rw [unAll] at h
    cases hp : unE p 0 with
    | none => rw [hp] at h; cases h
    | some q =>
      rw [hp, Option.bind_some, Option.map_eq_some_iff] at h
      obtain ⟨r, h1, rfl⟩ := h
      rw [List.map_cons, unE_forth hp, esc_unAll ps r h1]
theorem un_dash : unE [45] 0 = some [45] := by decide
theorem un_2d : unE [37, 50, 68] 0 = none := by decide
theorem split_join (l : List (List UInt8)) : splitE (joinE l) = some l := by
  unfold joinE
  by_cases h0 : l = []
  · rw [if_pos h0, splitE, if_pos rfl, h0]
  · rw [if_neg h0]
    by_cases h1 : l = [[45]]
    · rw [if_pos h1, splitE, if_neg (by decide), if_pos rfl, h1]
    · rw [if_neg h1]
      have hns : ∀ p ∈ l.map escL, (124 : UInt8) ∉ p := by
        intro p hp
        rw [List.mem_map] at hp
        obtain ⟨q, _, rfl⟩ := hp
        exact escL_nosep q 124 (by decide) (by decide)
      have hc : cutL 124 (joinL 124 (l.map escL)) = l.map escL := cut_join _ (by simpa using h0) hns
      have key : ∀ t, joinL 124 (l.map escL) = t → (124 : UInt8) ∉ t → l.map escL = [t] := by
        intro t ht hn
        rw [ht, cutL_nil hn] at hc
        exact hc.symm
      rw [splitE, if_neg, if_neg, hc, unAll_esc]
      · intro h
        have := key _ h (by decide)
        have h2 := unAll_esc l
        rw [this, unAll, un_2d] at h2; cases h2
      · intro h
        have := key _ h (by decide)
        have h2 := unAll_esc l
        rw [this, unAll, un_dash] at h2
        simp [unAll] at h2
        exact h1 h2.symm
theorem join_split (t : List UInt8) (l : List (List UInt8)) (h : splitE t = some l) : joinE l = t := by
  unfold splitE at h
  split at h
  · rename_i ht; cases h; rw [joinE, if_pos rfl, ht]
  · split at h
    · rename_i ht; cases h; rw [joinE, if_neg (by simp), if_pos rfl, ht]
    · rename_i h45 h2d
      have hm := esc_unAll _ _ h
      have hne : l ≠ [] := by
        intro e; rw [e] at hm
        exact cutL_ne 124 t hm.symm
      have h1 : l ≠ [[45]] := by
        intro e
        rw [e] at hm
        have hj := join_cut 124 t
        rw [← hm] at hj
        exact h45 hj.symm
      rw [joinE, if_neg hne, if_neg h1, hm, join_cut]
theorem joinE_inj {a b : List (List UInt8)} (h : joinE a = joinE b) : a = b := by
  have := split_join a
  rw [h, split_join] at this
  exact (Option.some.inj this).symm

/-- A pair, written. -/
def pairE (p : List UInt8 × List UInt8) : List UInt8 := escL p.1 ++ 61 :: escL p.2
/-- codec.Pairs on lists of bytes. -/
def pairsE (l : List (List UInt8 × List UInt8)) : List UInt8 := joinL 124 (l.map pairE)
/-- A pair, read. -/
def unPair (t : List UInt8) : Option (List UInt8 × List UInt8) :=
  if (61 : UInt8) ∈ t then (unE (t.takeWhile (· ≠ 61)) 0).bind fun k => (unE ((t.dropWhile (· ≠ 61)).tail) 0).map fun v => (k, v) else none
def unPairs : List (List UInt8) → Option (List (List UInt8 × List UInt8))
  | [] => some []
  | p :: ps => (unPair p).bind fun q => (unPairs ps).map (q :: ·)
/-- codec.ReadPairs on lists of bytes. -/
def readPairsE (t : List UInt8) : Option (List (List UInt8 × List UInt8)) := if t = [] then some [] else unPairs (cutL 124 t)
theorem take_eq {k v : List UInt8} (h : (61 : UInt8) ∉ k) : (k ++ 61 :: v).takeWhile (· ≠ 61) = k ∧ ((k ++ 61 :: v).dropWhile (· ≠ 61)).tail = v := by
  induction k with
  | nil => simp
  | cons x r ih =>
    have hx : x ≠ 61 := fun e => h (by rw [e]; simp)
    have := ih (fun hm => h (List.mem_cons_of_mem _ hm))
    simpa [hx] using this
theorem mem_parts {t : List UInt8} (h : (61 : UInt8) ∈ t) : t = t.takeWhile (· ≠ 61) ++ 61 :: (t.dropWhile (· ≠ 61)).tail ∧ (61 : UInt8) ∉ t.takeWhile (· ≠ 61) := by
  induction t with
  | nil => simp at h
  | cons x r ih =>
    by_cases hx : x = 61
    · subst hx; simp
    · have hm : (61 : UInt8) ∈ r := by
        rw [List.mem_cons] at h
        rcases h with h | h
        · exact absurd h.symm hx
        · exact h
      obtain ⟨h1, h2⟩ := ih hm
      refine ⟨?_, ?_⟩
      · simpa [hx] using h1
      · simp only [ne_eq, hx, not_false_eq_true, decide_true, List.takeWhile_cons_of_pos, List.mem_cons, not_or]
        exact ⟨fun e => hx e.symm, by simpa using h2⟩
theorem unPair_pair (p : List UInt8 × List UInt8) : unPair (pairE p) = some p := by
  obtain ⟨k, v⟩ := p
  have hk : (61 : UInt8) ∉ escL k := escL_nosep k 61 (by decide) (by decide)
  obtain ⟨h1, h2⟩ := take_eq (v := escL v) hk
  rw [unPair, pairE, if_pos (by simp), h1, h2, unE_esc, unE_esc]; rfl
theorem pair_unPair {t : List UInt8} {p : List UInt8 × List UInt8} (h : unPair t = some p) : pairE p = t := by
  unfold unPair at h
  split at h
  · rename_i hm
    obtain ⟨h1, _⟩ := mem_parts hm
    cases hk : unE (t.takeWhile (· ≠ 61)) 0 with
    | none => rw [hk] at h; cases h
    | some k =>
      rw [hk, Option.bind_some, Option.map_eq_some_iff] at h
      obtain ⟨v, hv, rfl⟩ := h
      rw [pairE, unE_forth hk, unE_forth hv, ← h1]
  · cases h
theorem unPairs_pairs (l : List (List UInt8 × List UInt8)) : unPairs (l.map pairE) = some l := by
  induction l with
  | nil => rfl
  | cons p ps ih => rw [List.map_cons, unPairs, unPair_pair, Option.bind_some, ih]; rfl
theorem pairs_unPairs : ∀ (ps : List (List UInt8)) (l : List (List UInt8 × List UInt8)), unPairs ps = some l → l.map pairE = ps
  | [], l, h => by simp [unPairs] at h; subst h; rfl
  | p :: ps, l, h => by
    rw [unPairs] at h
    cases hp : unPair p with
    | none => rw [hp] at h; cases h
    | some q =>
      rw [hp, Option.bind_some, Option.map_eq_some_iff] at h
      obtain ⟨r, h1, rfl⟩ := h
      rw [List.map_cons, pair_unPair hp, pairs_unPairs ps r h1]
theorem pairE_nosep (p : List UInt8 × List UInt8) : (124 : UInt8) ∉ pairE p := by
  rw [pairE, List.mem_append, List.mem_cons]
  rintro (hm | hm | hm)
  · exact escL_nosep _ 124 (by decide) (by decide) hm
  · cases hm
  · exact escL_nosep _ 124 (by decide) (by decide) hm
theorem pairE_ne (p : List UInt8 × List UInt8) : pairE p ≠ [] := by simp [pairE]
theorem joinL_nil {c : UInt8} {ps : List (List UInt8)} (h : joinL c ps = []) : ps = [] ∨ ps = [[]] := by
  cases ps with
  | nil => exact .inl rfl
  | cons p ps =>
    cases ps with
    | nil => right; simp only [joinL] at h; rw [h]
    | cons q r => simp [joinL] at h
theorem readPairs_pairs (l : List (List UInt8 × List UInt8)) : readPairsE (pairsE l) = some l := by
  unfold readPairsE
  by_cases h0 : l = []
  · subst h0; rfl
  · rw [if_neg, pairsE, cut_join _ (by simpa using h0), unPairs_pairs]
    · intro p hp
      rw [List.mem_map] at hp
      obtain ⟨q, _, rfl⟩ := hp
      exact pairE_nosep q
    · intro h
      rcases joinL_nil h with h | h
      · simp at h; exact h0 h
      · cases l with
        | nil => exact h0 rfl
        | cons p ps => simp at h; exact pairE_ne p h.1
theorem pairs_readPairs (t : List UInt8) (l : List (List UInt8 × List UInt8)) (h : readPairsE t = some l) : pairsE l = t := by
  unfold readPairsE at h
  split at h
  · rename_i ht; cases h; rw [ht]; rfl
  · rw [pairsE, pairs_unPairs _ _ h, join_cut]
end Go.Proofs.YthdpkfddmkijlaaGreatDoor

/- The codec's lists, on strings. -/
namespace Go.Proofs.YthdpkfddmkijlaaGreatDoor
open Go.RowKit

/-- A string of bytes. -/
def bsOf (l : List UInt8) : ByteArray := ⟨l.toArray⟩
theorem bsOf_list (s : ByteArray) : bsOf s.data.toList = s := by cases s; rfl
theorem list_bsOf (l : List UInt8) : (bsOf l).data.toList = l := rfl
theorem map_bsOf (l : List ByteArray) : (l.map (·.data.toList)).map bsOf = l := by
  induction l with
  | nil => rfl
  | cons a l ih => simp only [List.map_cons, bsOf_list]; rw [ih]
theorem map_list (l : List (List UInt8)) : (l.map bsOf).map (·.data.toList) = l := by
  induction l with
  | nil => rfl
  | cons a l ih => simp only [List.map_cons, list_bsOf]; rw [ih]
/-- The pieces between the bytes c. -/
def cutsL (c : UInt8) (l : List UInt8) : List ByteArray := (cutL c l).map bsOf
def cutsS (s : ByteArray) (c : UInt8) : List ByteArray := cutsL c s.data.toList
/-- Strings with a byte c between them. -/
def joinC (c : UInt8) (l : List ByteArray) : ByteArray := bsOf (joinL c (l.map (·.data.toList)))
/-- The form of a list, and its inverse. -/
def joinS (l : List ByteArray) : ByteArray := bsOf (joinE (l.map (·.data.toList)))
def splitO (s : ByteArray) : Option (List ByteArray) := (splitE s.data.toList).map (List.map bsOf)
def splitS (s : ByteArray) : List ByteArray := (splitO s).getD []
def splitErr (s : ByteArray) : Int := if (splitO s).isSome then 0 else 4
theorem split_joinS (l : List ByteArray) : splitO (joinS l) = some l := by
  simp only [splitO, joinS, list_bsOf, split_join, Option.map_some, map_bsOf]
theorem join_splitS {s : ByteArray} {l : List ByteArray} (h : splitO s = some l) : joinS l = s := by
  simp only [splitO, Option.map_eq_some_iff] at h
  obtain ⟨m, h, rfl⟩ := h
  rw [joinS, map_list, join_split _ _ h, bsOf_list]
theorem joinS_inj {a b : List ByteArray} (h : joinS a = joinS b) : a = b := by
  have := split_joinS a
  rw [h, split_joinS] at this
  exact (Option.some.inj this).symm
theorem extract_list (s : ByteArray) (f k : Nat) : (s.extract f k).data.toList = (s.data.toList.take k).drop f := by
  rw [ByteArray.data_extract, Array.toList_extract, List.extract_eq_take_drop, List.drop_take]
/-- A piece more. -/
theorem cuts_step {s : ByteArray} {c : UInt8} {f k : Nat} {P L : List ByteArray} (hf : f ≤ k) (hk : k < s.size) (hc : s[k] = c) (hn : c ∉ (s.data.toList.take k).drop f) (HP : P ++ cutsL c (s.data.toList.drop f) = L) :
    (P ++ [s.extract f k]) ++ cutsL c (s.data.toList.drop (k + 1)) = L := by
  have hl : k < s.data.toList.length := by simpa using hk
  have e : s.data.toList.drop f = (s.data.toList.take k).drop f ++ c :: s.data.toList.drop (k + 1) := by
    have h1 : s.data.toList = s.data.toList.take k ++ s.data.toList.drop k := (List.take_append_drop k _).symm
    have h2 : s.data.toList.drop k = c :: s.data.toList.drop (k + 1) := by
      rw [List.drop_eq_getElem_cons hl, ← hc]; rfl
    rw [h2] at h1
    conv => lhs; rw [h1]
    rw [List.drop_append_of_le_length (by simp; omega)]
  rw [e, cutsL, cutL_app hn, List.map_cons] at HP
  have e2 : bsOf ((s.data.toList.take k).drop f) = s.extract f k := by rw [← extract_list, bsOf_list]
  rw [e2] at HP
  rw [List.append_assoc]
  exact HP
theorem cuts_next {s : ByteArray} {c : UInt8} {f k : Nat} (hf : f ≤ k) (hk : k < s.size) (hc : s[k] ≠ c) (hn : c ∉ (s.data.toList.take k).drop f) : c ∉ (s.data.toList.take (k + 1)).drop f := by
  have hl : k < s.data.toList.length := by simpa using hk
  rw [List.take_succ_eq_append_getElem hl, List.drop_append_of_le_length (by simp; omega)]
  intro h
  rw [List.mem_append] at h
  rcases h with h | h
  · exact hn h
  · rw [List.mem_singleton] at h; exact hc h.symm
theorem cuts_end {s : ByteArray} {c : UInt8} {f k : Nat} {P L : List ByteArray} (hk : ¬ k < s.size) (hn : c ∉ (s.data.toList.take k).drop f) (HP : P ++ cutsL c (s.data.toList.drop f) = L) : P ++ [s.extract f s.size] = L := by
  have hs : s.data.toList.length = s.size := by simp
  have e2 : bsOf (s.data.toList.drop f) = s.extract f s.size := by
    rw [← bsOf_list (s.extract f s.size), extract_list, List.take_of_length_le (by omega)]
  rw [List.take_of_length_le (by omega)] at hn
  rw [cutsL, cutL_nil hn, List.map_cons, e2] at HP
  exact HP
end Go.Proofs.YthdpkfddmkijlaaGreatDoor

/- The place of a byte in a string. Plain. -/
namespace Go.Proofs.YthdpkfddmkijlaaGreatDoor
open Go.RowKit

/-- The place of the first byte c. -/
def cutI (s : ByteArray) (c : UInt8) : Int := Lib.indexByte s.data.toList c
theorem indexByte_lt (l : List UInt8) (c : UInt8) : Lib.indexByte l c < l.length := by
  induction l with
  | nil => simp [Lib.indexByte]
  | cons b r ih =>
    unfold Lib.indexByte
    split
    · simp
    · split
      · simp; omega
      · simp; omega
theorem cutI_lt (s : ByteArray) (c : UInt8) : cutI s c < s.size := by
  have := indexByte_lt s.data.toList c
  simpa [cutI] using this
theorem indexByte_eq (l : List UInt8) (c : UInt8) : ∀ i : Nat, Lib.indexByte l c = i ↔ (c ∉ l.take i ∧ l[i]? = some c) := by
  induction l with
  | nil => intro i; simp [Lib.indexByte]
  | cons b r ih =>
    intro i
    have hg := Lib.indexByte_ge r c
    unfold Lib.indexByte
    by_cases hb : b = c
    · subst hb
      cases i with
      | zero => simp
      | succ i => simp; omega
    · have hb' : (b == c) = false := by simpa using hb
      rw [hb']
      cases i with
      | zero =>
        simp only [Bool.false_eq_true, if_false, List.take_zero, List.not_mem_nil, not_false_eq_true, true_and, List.getElem?_cons_zero, Option.some.injEq, hb, iff_false]
        by_cases hr : Lib.indexByte r c = -1
        · simp [hr]
        · simp [hr]; omega
      | succ i =>
        have := ih i
        simp only [Bool.false_eq_true, if_false, List.take_succ_cons, List.mem_cons, not_or, List.getElem?_cons_succ, Ne.symm hb, not_false_eq_true, true_and]
        have hbc : ¬ c = b := fun e => hb e.symm
        rw [← this]
        by_cases hr : Lib.indexByte r c = -1
        · simp [hr]; omega
        · simp [hr]
theorem cutI_eq (s : ByteArray) (c : UInt8) (i : Nat) : cutI s c = i ↔ (c ∉ s.data.toList.take i ∧ s.data.toList[i]? = some c) := indexByte_eq _ c i
theorem ext_front (s : ByteArray) (i : Nat) : (s.extract 0 i).data.toList = s.data.toList.take i := by
  simp [ByteArray.data_extract]
theorem ext_back (s : ByteArray) (i : Nat) : (s.extract i s.size).data.toList = s.data.toList.drop i := Lib.extract_to_end s i
/-- What stands round a byte. -/
theorem split_at (s : ByteArray) (c : UInt8) (i : Nat) (h : s.data.toList[i]? = some c) : s.extract 0 i ++ ⟨#[c]⟩ ++ s.extract (i + 1) s.size = s := by
  apply ByteArray.ext
  apply Array.toList_inj.1
  rw [ByteArray.data_append, ByteArray.data_append, Array.toList_append, Array.toList_append, ext_front, ext_back]
  obtain ⟨hi, he⟩ := List.getElem?_eq_some_iff.1 h
  have : s.data.toList = s.data.toList.take i ++ s.data.toList.drop i := (List.take_append_drop i _).symm
  conv => rhs; rw [this, List.drop_eq_getElem_cons hi, he]
  simp
end Go.Proofs.YthdpkfddmkijlaaGreatDoor

/- Plain: the pieces of a string, by the first place of the separator. -/
namespace Go.Proofs.YthdpkfddmkijlaaGreatDoor
open Go.RowKit

theorem cutL_len (c : UInt8) (l : List UInt8) : (cutL c l).length = l.count c + 1 := by
  induction l with
  | nil => rfl
  | cons a l ih =>
    rw [cutL]
    by_cases h : a = c
    · subst h; simp [ih]
    · simp only [if_neg h]
      cases hc : cutL c l with
      | nil => exact absurd hc (cutL_ne c l)
      | cons p ps => rw [hc] at ih; simp [h]; simpa using ih
theorem cutsL_len (c : UInt8) (l : List UInt8) : (cutsL c l).length = l.count c + 1 := by rw [cutsL, List.length_map, cutL_len]
theorem cutsS_len (s : ByteArray) (c : UInt8) : (cutsS s c).length = s.data.toList.count c + 1 := cutsL_len c _
theorem cutsS_le (s : ByteArray) (c : UInt8) : (cutsS s c).length ≤ s.size + 1 := by
  rw [cutsS_len]
  have := @List.count_le_length _ _ c s.data.toList
  have : s.data.toList.length = s.size := by simp
  omega
theorem mem_idx {s : ByteArray} {c : UInt8} (h : 2 ≤ (cutsS s c).length) : ∃ i : Nat, cutI s c = i := by
  rw [cutsS_len] at h
  have hm : c ∈ s.data.toList := List.count_pos_iff.1 (by omega)
  have hg := Lib.indexByte_ge s.data.toList c
  refine Int.eq_ofNat_of_zero_le ?_
  by_cases h0 : 0 ≤ cutI s c
  · exact h0
  · exfalso
    have e : Lib.indexByte s.data.toList c = -1 := by have : cutI s c = Lib.indexByte s.data.toList c := rfl; omega
    obtain ⟨k, hk⟩ := List.mem_iff_getElem?.1 hm
    exact Lib.indexByte_none e k hk
theorem cutsS_hit {s : ByteArray} {c : UInt8} {i : Nat} (h : cutI s c = i) : cutsS s c = s.extract 0 i :: cutsS (s.extract (i + 1) s.size) c := by
  obtain ⟨h1, h2⟩ := (cutI_eq s c i).1 h
  have hl : i < s.data.toList.length := (List.getElem?_eq_some_iff.1 h2).1
  have e : s.data.toList = s.data.toList.take i ++ c :: s.data.toList.drop (i + 1) := by
    have h3 : s.data.toList.drop i = c :: s.data.toList.drop (i + 1) := by
      rw [List.drop_eq_getElem_cons hl]
      rw [List.getElem?_eq_getElem hl] at h2
      rw [Option.some.inj h2]
    conv => lhs; rw [← List.take_append_drop i s.data.toList, h3]
  rw [cutsS, e, cutsL, cutL_app h1, List.map_cons, cutsS, cutsL, ext_back, ← ext_front, bsOf_list]
theorem cutsS_miss {s : ByteArray} {c : UInt8} (h : (cutsS s c).length = 1) : cutsS s c = [s] := by
  rw [cutsS_len] at h
  have hm : c ∉ s.data.toList := List.count_eq_zero.1 (by omega)
  rw [cutsS, cutsL, cutL_nil hm, List.map_cons, List.map_nil, bsOf_list]
end Go.Proofs.YthdpkfddmkijlaaGreatDoor

/- strings.Split at a separator of one byte. -/
namespace Go.Proofs.YthdpkfddmkijlaaGreatDoor
open Go.RowKit

theorem count_any (s : ByteArray) (c : UInt8) (w : World) :
    Calls Tryz.prog 114 #[.string s, .string ⟨#[c]⟩] w fun e w' => e = .returned (.int .i64 ((cutsS s c).length - 1 : Int)) ∧ w = w' := by
  refine (Tryz.strings_Count_one s c w).mono ?_
  rintro e w' ⟨rfl, rfl⟩
  refine ⟨ret_int ?_, rfl⟩
  rw [cutsS_len]; unfold Lib.countByte; omega
theorem index_one (s : ByteArray) (c : UInt8) (z : Int) (w : World) (h : cutI s c = z) :
    Calls Tryz.prog 115 #[.string s, .string ⟨#[c]⟩] w fun e w' => e = .returned (.int .i64 z) ∧ w = w' := by
  refine (Tryz.strings_Index_one s c w).mono ?_
  rintro e w' ⟨rfl, rfl⟩
  exact ⟨ret_int h, rfl⟩

theorem mid_at {L P R : List ByteArray} {q : ByteArray} {k : Nat} (h : L = P ++ q :: R) (hk : P.length = k) (hl : k < L.length) : L[k] = q := by
  subst h; subst hk; simp

set_option maxHeartbeats 2000000 in
set_option maxRecDepth 100000 in
theorem genSplit_any (s : ByteArray) (c : UInt8) (w : World) (hs : s.size ≤ 1000000000) :
    Calls Tryz.prog 104 #[.string s, .string ⟨#[c]⟩, .int .i64 0, .int .i64 (-1)] w fun e w' => ∃ xs cap, e = .returned (.slice (some ⟨w.heap.size, 0, none⟩) (cutsS s c).length cap) ∧ (cutsS s c).length ≤ cap ∧ w'.ownsRow w.heap.size 9 1 (.slice (some ⟨w.heap.size, 0, none⟩) (cutsS s c).length cap) (cutsS s c).length xs ∧ Done xs (cutsS s c) (cutsS s c).length ∧ Below w.heap.size w w' := by
  obtain ⟨i0, hi, hz0, hz1, hz2⟩ := info_parts Tryz.info_s
  have hle := cutsS_le s c
  have hpos : 1 ≤ (cutsS s c).length := by rw [cutsS_len]; omega
  obtain ⟨N, hN⟩ : ∃ N, (cutsS s c).length = N := ⟨_, rfl⟩
  have HC := count_any s c w
  rw [hN] at HC hle hpos
  have HN := Lib.hid hN
  have hmin : min (N : Int) ((s.size : Int) + 1) = N := by omega
  rw [hN]
  clear hN
  go_enter Tryz.func104, Tryz.ntmps104
  go_wp2_with fail
  refine HC.mono ?_
  rintro e w1 ⟨rfl, rfl⟩
  clear HC
  go_wp2_with (at_make; refine wpList_make_full _ rfl _ _ 33 rfl w.heap.size 9 i0 (.string ByteArray.empty) 1 Tryz.underlying33 hi hz0 hz1 .i64 .i64 _ _ N rfl rfl rfl rfl (by rw [hz2]; omega) (by unfold maxLen; omega) (Nat.le_refl _) ?_; intro w1 hown1 hg1)
  have HB1 := Lib.hid ((Below.refl w.heap.size w).grown hg1 (Nat.le_refl _) (by intro k hk; cases hk))
  clear hg1
  go_wp2_with fail
  go_loopw [0, 10, 11] (fun sv i _ wr => ∃ (t : ByteArray) (k : Nat) (xs : List Value) (P : List ByteArray), k + 1 ≤ N ∧ sv = .string t ∧ i = .int .i64 k ∧ t.size ≤ s.size ∧ Hid (P.length = k ∧ cutsS s c = P ++ cutsS t c) ∧ wr.ownsRow w.heap.size 9 1 (.slice (some ⟨w.heap.size, 0, none⟩) N N) N xs ∧ Below w.heap.size w wr ∧ Hid (Done xs (cutsS s c) k)) (fun _ i _ _ => N - (intOf i).toNat)
  case atStart => exact ⟨s, 0, _, [], hpos, rfl, rfl, Nat.le_refl _, Lib.hid ⟨rfl, rfl⟩, hown1, HB1.out, Lib.hid (Done.zero _ _)⟩
  case round =>
    clear hown1
    obtain ⟨t, k, xs, P, hk, rfl, rfl, hts, HP, hown, hbr, HD⟩ := hrel
    have HX : Hid (xs.length = N) := by show _ = _; have := hown.1; omega
    obtain ⟨u, hu⟩ : ∃ u, xs[k]? = some u := ⟨_, List.getElem?_eq_getElem (by rw [HX.out]; exact hk)⟩
    have hcell := (hown.cellAt k (by omega)).trans hu
    have hfr := hown.frozenAt k
    clear hu
    have HLt : Hid ((cutsS t c).length + k = N) := by
      show _ = _
      have h1 := congrArg List.length HP.out.2
      rw [List.length_append, HP.out.1, HN.out] at h1; omega
    by_cases hlt : k + 1 < N
    · obtain ⟨i, hci⟩ := mem_idx (s := t) (c := c) (by have := HLt.out; omega)
      have HI := Lib.hid hci
      have hil : i < t.size := by have := cutI_lt t c; omega
      have HE := Lib.hid (cutsS_hit hci)
      have HM : Hid (∀ hl : k < (cutsS s c).length, (cutsS s c)[k] = t.extract 0 i) := Lib.hid (fun hl => mid_at (P := P) (R := cutsS (t.extract (i + 1) t.size) c) (by rw [← HE.out]; exact HP.out.2) HP.out.1 hl)
      have hP2 : Hid ((P ++ [t.extract 0 i]).length = k + 1 ∧ cutsS s c = (P ++ [t.extract 0 i]) ++ cutsS (t.extract (i + 1) t.size) c) := Lib.hid ⟨by rw [List.length_append, HP.out.1]; rfl, by rw [HP.out.2, HE.out]; simp⟩
      have hlt' : (k : Int) < (N : Int) - 1 := by omega
      have hw1 : IntKind.i64.wrap ((i : Int) + 1) = (i : Int) + 1 := IntWalk.i64_in _ (by omega)
      clear hci
      go_wp2_with fail
      refine (index_one t c i _ HI.out).mono ?_
      rintro e w2 ⟨rfl, rfl⟩
      go_wp2_with fail
      have HS := hown.stored k (.string (t.extract 0 i))
      have HDn : Hid (Done (xs.set k (.string (t.extract 0 i))) (cutsS s c) (k + 1)) := Lib.hid (HD.out.set (by rw [HX.out]; exact hk) (fun hl => by rw [HM.out hl]))
      have hsz : (t.extract (i + 1) t.size).size ≤ s.size := by simp [ByteArray.size_extract]; omega
      go_roundw
      case rel => exact ⟨_, k + 1, _, _, hlt, rfl, by go_num, hsz, hP2, HS.1, hbr.setCell (p := ⟨w.heap.size, k, none⟩) (Nat.le_refl _) _, HDn⟩
      case measure => simp [intOf]; omega
    · have hlt' : ¬ (k : Int) < (N : Int) - 1 := by omega
      have hkN : k + 1 = N := by omega
      have HM1 := Lib.hid (cutsS_miss (s := t) (c := c) (by have := HLt.out; omega))
      have HM : Hid (∀ hl : k < (cutsS s c).length, (cutsS s c)[k] = t) := Lib.hid (fun hl => mid_at (P := P) (R := []) (by rw [← HM1.out]; exact HP.out.2) HP.out.1 hl)
      go_wp2_with fail
      have HS := hown.stored k (.string t)
      have HDn : Done (xs.set k (.string t)) (cutsS s c) N := by
        rw [← hkN]
        exact HD.out.set (by rw [HX.out]; exact hk) (fun hl => by rw [HM.out hl])
      go_ret
      exact ⟨_, N, rfl, Nat.le_refl _, HS.1, HDn, hbr.setCell (p := ⟨w.heap.size, k, none⟩) (Nat.le_refl _) _⟩
/-- strings.Split. -/
theorem ssplit_any (s : ByteArray) (c : UInt8) (w : World) (hs : s.size ≤ 1000000000) :
    Calls Tryz.prog 83 #[.string s, .string ⟨#[c]⟩] w fun e w' => ∃ xs cap, e = .returned (.slice (some ⟨w.heap.size, 0, none⟩) (cutsS s c).length cap) ∧ (cutsS s c).length ≤ cap ∧ w'.ownsRow w.heap.size 9 1 (.slice (some ⟨w.heap.size, 0, none⟩) (cutsS s c).length cap) (cutsS s c).length xs ∧ Done xs (cutsS s c) (cutsS s c).length ∧ Below w.heap.size w w' := by
  go_enter Tryz.func83, Tryz.ntmps83
  go_wp2_with fail
  refine (genSplit_any s c w hs).mono ?_
  rintro e w1 ⟨xs, cap, rfl, h1, h2, h3, h4⟩
  go_wp2_with fail
  go_ret
  exact ⟨xs, cap, rfl, h1, h2, h3, h4⟩
end Go.Proofs.YthdpkfddmkijlaaGreatDoor

/- codec.Escape and codec.Unescape compute escS, unescS. -/
namespace Go.Proofs.YthdpkfddmkijlaaGreatDoor
open Go.RowKit

def sepTab : ByteArray := ⟨#[37, 124, 44, 61, 59, 34]⟩
def hexTab : ByteArray := ⟨#[48, 49, 50, 51, 52, 53, 54, 55, 56, 57, 65, 66, 67, 68, 69, 70]⟩
/-- A separator. -/
def sepB (c : UInt8) : Bool := decide (c.toNat = 37 ∨ c.toNat = 124 ∨ c.toNat = 44 ∨ c.toNat = 61 ∨ c.toNat = 59 ∨ c.toNat = 34)
theorem plainB_eq (c : UInt8) : plainB c = (decide (33 ≤ c.toNat) && (decide (c.toNat ≤ 126) && !sepB c)) := by
  have : ∀ n : Fin 256, plainB (UInt8.ofNat n.1) = (decide (33 ≤ (UInt8.ofNat n.1).toNat) && (decide ((UInt8.ofNat n.1).toNat ≤ 126) && !sepB (UInt8.ofNat n.1))) := by decide +kernel
  have h := this ⟨c.toNat, c.toNat_lt⟩
  simpa using h
theorem sep_index (c : UInt8) : (sepB c = true → 0 ≤ Lib.indexByte sepTab.data.toList c) ∧ (sepB c = false → Lib.indexByte sepTab.data.toList c = -1) := by
  have : ∀ n : Fin 256, (sepB (UInt8.ofNat n.1) = true → 0 ≤ Lib.indexByte sepTab.data.toList (UInt8.ofNat n.1)) ∧ (sepB (UInt8.ofNat n.1) = false → Lib.indexByte sepTab.data.toList (UInt8.ofNat n.1) = -1) := by decide +kernel
  have h := this ⟨c.toNat, c.toNat_lt⟩
  simpa using h
theorem hex_index (c : UInt8) : Lib.indexByte hexTab.data.toList c = match hexV c with | none => -1 | some v => (v : Int) := by
  have : ∀ n : Fin 256, Lib.indexByte hexTab.data.toList (UInt8.ofNat n.1) = match hexV (UInt8.ofNat n.1) with | none => -1 | some d => (d : Int) := by decide +kernel
  have h := this ⟨c.toNat, c.toNat_lt⟩
  simpa using h
theorem hexTab_el (d : Nat) (h : d < 16) (h' : d < hexTab.size) : hexTab[d] = hexU d := by
  have : ∀ d : Fin 16, hexTab.data.toList[d.1]? = some (hexU d.1) := by decide +kernel
  have := this ⟨d, h⟩
  rw [List.getElem?_eq_getElem (by simpa using h')] at this
  exact Option.some.inj this
theorem hex_lit (d : Nat) (h : d < 16) : (⟨#[48, 49, 50, 51, 52, 53, 54, 55, 56, 57, 65, 66, 67, 68, 69, 70]⟩ : ByteArray)[d]'h = hexU d := hexTab_el d h h
theorem hexV_lt {c : UInt8} {v : Nat} (h : hexV c = some v) : v < 16 := (hexU_val h).2
theorem or_four (x c : Int) (h0 : 0 ≤ x) (hx : x < 1000000) (hc0 : 0 ≤ c) (hc : c < 16) : bits .or .i64 (x * 16) c = x * 16 + c :=
  bits_join .i64 62 (by decide) wraps_i64 4 (x * 16) c (by omega) (by omega) (by omega) (by omega) (by omega) (by omega)
/-- strings.IndexByte in the separators. -/
theorem index_sep (c : UInt8) (w : World) :
    Calls Tryz.prog 105 #[.string sepTab, .int .u8 (c.toNat : Int)] w fun e w' => e = .returned (.int .i64 (Lib.indexByte sepTab.data.toList c)) ∧ w = w' := by
  refine (Tryz.strings_IndexByte sepTab (c.toNat : Int) w).mono ?_
  rintro e w' ⟨rfl, rfl⟩
  exact ⟨ret_int (by simp), rfl⟩
theorem index_hex (c : UInt8) (w : World) :
    Calls Tryz.prog 105 #[.string hexTab, .int .u8 (c.toNat : Int)] w fun e w' => e = .returned (.int .i64 (match hexV c with | none => -1 | some v => (v : Int))) ∧ w = w' := by
  refine (Tryz.strings_IndexByte hexTab (c.toNat : Int) w).mono ?_
  rintro e w' ⟨rfl, rfl⟩
  refine ⟨ret_int ?_, rfl⟩
  rw [← hex_index]
  simp
theorem index_hexI (c : UInt8) (w : World) :
    Calls Tryz.prog 105 #[.string hexTab, .int .u8 (c.toNat : Int)] w fun e w' => e = .returned (.int .i64 (Lib.indexByte hexTab.data.toList c)) ∧ w = w' := by
  refine (Tryz.strings_IndexByte hexTab (c.toNat : Int) w).mono ?_
  rintro e w' ⟨rfl, rfl⟩
  exact ⟨ret_int (by simp), rfl⟩
theorem index_hex_at (c : UInt8) (z : Int) (w : World) (h : Lib.indexByte hexTab.data.toList c = z) :
    Calls Tryz.prog 105 #[.string hexTab, .int .u8 (c.toNat : Int)] w fun e w' => e = .returned (.int .i64 z) ∧ w = w' := by
  have := index_hexI c w; rw [h] at this; exact this
theorem index_hex_none (c : UInt8) (w : World) (h : hexV c = none) :
    Calls Tryz.prog 105 #[.string hexTab, .int .u8 (c.toNat : Int)] w fun e w' => e = .returned (.int .i64 (-1)) ∧ w = w' := by
  have := index_hex c w; rw [h] at this; exact this
theorem index_hex_some (c : UInt8) (v : Nat) (w : World) (h : hexV c = some v) :
    Calls Tryz.prog 105 #[.string hexTab, .int .u8 (c.toNat : Int)] w fun e w' => e = .returned (.int .i64 (v : Int)) ∧ w = w' := by
  have := index_hex c w; rw [h] at this; exact this

theorem plain_of {c : UInt8} {b : Bool} (h : b = (decide (33 ≤ c.toNat) && (decide (c.toNat ≤ 126) && !sepB c))) : b = plainB c := by rw [plainB_eq, h]
set_option maxHeartbeats 1000000 in
theorem cplain_any (c : UInt8) (w : World) :
    Calls Tryz.prog 97 #[.int .u8 (c.toNat : Int)] w fun e w' => e = .returned (.bool (plainB c)) ∧ w = w' := by
  have hcs : c.toNat < 33 ∨ 126 < c.toNat ∨ (33 ≤ c.toNat ∧ c.toNat ≤ 126) := by omega
  go_enter Tryz.func97, Tryz.ntmps97
  rcases hcs with h | h | ⟨h1, h2⟩
  · go_wp2_with fail
    go_ret
    exact ⟨ret_bool (plain_of (by simp [Nat.not_le.2 h])), rfl⟩
  · go_wp2_with fail
    go_ret
    exact ⟨ret_bool (plain_of (by simp [Nat.not_le.2 h])), rfl⟩
  · cases hs : sepB c with
    | true =>
      have h0 := (sep_index c).1 hs
      obtain ⟨i, hi⟩ := Int.eq_ofNat_of_zero_le h0
      have HI := Lib.hid hi
      have HS := Lib.hid hs
      clear hi h0 hs
      go_wp2_with fail
      refine (index_sep c w).mono ?_
      rintro e w1 ⟨rfl, rfl⟩
      rw [HI.out]
      go_wp2_with fail
      go_ret
      exact ⟨ret_bool (plain_of (by simp [HS.out])), rfl⟩
    | false =>
      have h0 := (sep_index c).2 hs
      have HI := Lib.hid h0
      have HS := Lib.hid hs
      clear h0 hs
      go_wp2_with fail
      refine (index_sep c w).mono ?_
      rintro e w1 ⟨rfl, rfl⟩
      rw [HI.out]
      go_wp2_with fail
      go_ret
      exact ⟨ret_bool (plain_of (by simp [HS.out, h1, h2])), rfl⟩

theorem esc_step1 {s : ByteArray} {k : Nat} {pre L : List UInt8} (hk : k < s.size) (hp : plainB s[k] = true) (HP : pre ++ escL (s.data.toList.drop k) = L) :
    (pre ++ [s[k]]) ++ escL (s.data.toList.drop (k + 1)) = L := by
  rw [drop_cons s k hk, escL, escC, if_pos hp] at HP
  rw [← HP]; simp
theorem esc_step3 {s : ByteArray} {k c a b : Nat} {pre L : List UInt8} (hk : k < s.size) (hp : plainB s[k] = false) (hc : s[k].toNat = c) (ha : c / 16 = a) (hb : c % 16 = b) (HP : pre ++ escL (s.data.toList.drop k) = L) :
    (pre ++ [37] ++ [hexU a] ++ [hexU b]) ++ escL (s.data.toList.drop (k + 1)) = L := by
  rw [drop_cons s k hk, escL, escC, if_neg (by rw [hp]; decide), hc, ha, hb] at HP
  rw [← HP]; simp
theorem esc_end {s : ByteArray} {k : Nat} {pre : List UInt8} (hk : ¬ k < s.size) (HP : pre ++ escL (s.data.toList.drop k) = escL s.data.toList) : (⟨pre.toArray⟩ : ByteArray) = escS s := by
  rw [List.drop_of_length_le (by simp; have : s.size = s.data.size := rfl; omega), escL, List.append_nil] at HP
  rw [escS, ← HP]

set_option maxHeartbeats 2000000 in
theorem esc_any (s : ByteArray) (w : World) (hs : s.size ≤ 1000000000) :
    Calls Tryz.prog 76 #[.string s] w fun e w' => e = .returned (.string (escS s)) ∧ Below w.heap.size w w' := by
  go_enter Tryz.func76, Tryz.ntmps76
  go_wp2_with fail
  go_loopw [4, 5, 8] (fun _ _ j wr => ∃ (k : Nat) (pre : List UInt8), k ≤ s.size ∧ j = .int .i64 k ∧ Bld w.heap.size w.heap.size pre wr ∧ Hid (pre ++ escL (s.data.toList.drop k) = escL s.data.toList) ∧ pre.length ≤ 3 * k ∧ Below w.heap.size w wr) (fun _ _ i _ => s.size - (intOf i).toNat)
  case atStart => exact ⟨0, [], Nat.zero_le _, rfl, Bld.fresh w, Lib.hid rfl, Nat.zero_le _, (Below.refl _ _).alloc (Nat.le_refl _) _⟩
  case round =>
    obtain ⟨k, pre, hk, rfl, hB, HP, hpl, hbr⟩ := hrel
    by_cases hlt : k < s.size
    · cases hp : plainB s[k] with
      | true =>
        have HQ := Lib.hid hp
        go_wp2_with fail
        refine (cplain_any s[k] wr).mono ?_
        rintro e w1 ⟨rfl, rfl⟩
        rw [hp]
        clear hp
        go_wp2_with fail
        refine (writeByte_any _ _ pre _ _ hB (by omega) hbr.size).mono ?_
        rintro e w1 ⟨rfl, hB1, hb1⟩
        go_wp2_with fail
        go_roundw
        case rel => exact ⟨k + 1, pre ++ [s[k]], by omega, by go_num, hB1, Lib.hid (esc_step1 hlt HQ.out HP.out), by simp; omega, hbr.trans hb1⟩
        case measure => simp [intOf]; omega
      | false =>
        have HQ := Lib.hid hp
        obtain ⟨c, hc⟩ : ∃ c, s[k].toNat = c := ⟨_, rfl⟩
        have HC := Lib.hid hc
        have hcl : c < 256 := hc ▸ s[k].toNat_lt
        obtain ⟨a, HA⟩ : ∃ a, Hid (c / 16 = a) := ⟨_, Lib.hid rfl⟩
        have hal : a < 16 := by have := HA.out; omega
        have ea : (c : Int) / 16 = (a : Int) := by have := HA.out; omega
        obtain ⟨b, HB⟩ : ∃ b, Hid (c % 16 = b) := ⟨_, Lib.hid rfl⟩
        have hbl : b < 16 := by have := HB.out; omega
        have eb : bits BinOp.and IntKind.u8 (c : Int) 15 = (b : Int) := by rw [u8_and15 _ (by omega) (by omega)]; have := HB.out; omega
        have hcp := cplain_any s[k] wr
        rw [hc, hp] at hcp
        clear hp
        go_wp2_with fail
        refine hcp.mono ?_
        rintro e w1 ⟨rfl, rfl⟩
        go_wp2_with fail
        refine (writeByte_any _ _ pre 37 _ hB (by omega) hbr.size).mono ?_
        rintro e w1 ⟨rfl, hB1, hb1⟩
        have hbr1 := hbr.trans hb1
        have eA := hex_lit a hal
        have eB := hex_lit b hbl
        go_wp2_with fail
        refine (writeByte_any _ _ _ _ _ hB1 (by simp; omega) hbr1.size).mono ?_
        rintro e w2 ⟨rfl, hB2, hb2⟩
        have hbr2 := hbr1.trans hb2
        go_wp2_with fail
        refine (writeByte_any _ _ _ _ _ hB2 (by simp; omega) hbr2.size).mono ?_
        rintro e w3 ⟨rfl, hB3, hb3⟩
        go_wp2_with fail
        have hP := esc_step3 hlt HQ.out HC.out HA.out HB.out HP.out
        go_roundw
        case rel => exact ⟨k + 1, _, by omega, by go_num, hB3, Lib.hid hP, by simp; omega, hbr2.trans hb3⟩
        case measure => simp [intOf]; omega
    · go_wp2_with fail
      refine (bldString_any _ _ pre _ hB hbr.size).mono ?_
      rintro e w1 ⟨rfl, hb1⟩
      go_wp2_with fail
      go_ret
      exact ⟨ret_str (esc_end hlt HP.out), hbr.trans hb1⟩

theorem quiet_eq {P : Program} {f : FuncId} {args : Array Value} {w : World} {n : Nat} {v : Value}
    (h : Calls P f args (w.drewN n) fun e w' => e = .returned v ∧ w.drewN n = w') : Calls P f args (w.drewN n) fun e w'' => e = .returned v ∧ ∃ m, w'' = w.drewN m :=
  h.mono fun _ _ ⟨he, hm⟩ => ⟨he, n, hm.symm⟩
theorem Bld.drewN {B b : Nat} {l : List UInt8} {w : World} (h : Bld B b l w) {n : Nat} : Bld B b l (w.drewN n) := h
theorem un_plain {s : ByteArray} {k : Nat} {pre : List UInt8} {L : Option (List UInt8)} (hk : k < s.size) (hp : plainB s[k] = true) (HP : (unE (s.data.toList.drop k) 0).map (pre ++ ·) = L) :
    (unE (s.data.toList.drop (k + 1)) 0).map ((pre ++ [s[k]]) ++ ·) = L := by
  rw [drop_cons s k hk, unE, if_pos hp, r64_snoc] at HP
  exact HP
theorem un_bad {s : ByteArray} {k : Nat} {pre : List UInt8} {L : Option (List UInt8)} (hk : k < s.size) (hp : plainB s[k] = false) (h37 : s[k].toNat ≠ 37) (HP : (unE (s.data.toList.drop k) 0).map (pre ++ ·) = L) : L = none := by
  rw [drop_cons s k hk, unE, if_neg (by rw [hp]; decide), if_neg (by intro e; rw [e] at h37; exact h37 rfl)] at HP
  rw [← HP]; rfl
theorem u37 {c : UInt8} (h : c.toNat = 37) : c = 37 := UInt8.toNat_inj.1 h
theorem un_short {s : ByteArray} {k : Nat} {pre : List UInt8} {L : Option (List UInt8)} (hk : k < s.size) (h37 : s[k].toNat = 37) (hs : ¬ k + 2 < s.size) (HP : (unE (s.data.toList.drop k) 0).map (pre ++ ·) = L) : L = none := by
  rw [drop_cons s k hk, u37 h37, unE, if_neg (by decide), if_pos rfl] at HP
  rw [← HP]
  by_cases h1 : k + 1 < s.size
  · rw [drop_cons s (k + 1) h1, unE, List.drop_of_length_le (by simp; have : s.size = s.data.size := rfl; omega)]
    cases hexV s[k + 1] <;> rfl
  · rw [List.drop_of_length_le (by simp; have : s.size = s.data.size := rfl; omega)]; rfl
theorem un_hex {s : ByteArray} {k : Nat} {pre : List UInt8} {L : Option (List UInt8)} (hs : k + 2 < s.size) (h37 : s[k].toNat = 37) (HP : (unE (s.data.toList.drop k) 0).map (pre ++ ·) = L) :
    (((hexV s[k + 1]).bind fun a => (hexV s[k + 2]).bind fun b => if plainB (UInt8.ofNat (a * 16 + b)) then none else (unE (s.data.toList.drop (k + 3)) 0).map (UInt8.ofNat (a * 16 + b) :: ·)).map (pre ++ ·)) = L := by
  rw [drop_cons s k (by omega), u37 h37, unE, if_neg (by decide), if_pos rfl, drop_cons s (k + 1) (by omega), unE, drop_cons s (k + 2) hs] at HP
  rw [← HP]
  cases hexV s[k + 1] with
  | none => rfl
  | some a => rw [Option.bind_some, Option.bind_some, unE]
theorem un_end {s : ByteArray} {k : Nat} {pre : List UInt8} (hk : ¬ k < s.size) (HP : (unE (s.data.toList.drop k) 0).map (pre ++ ·) = unE s.data.toList 0) : unescO s = some ⟨pre.toArray⟩ := by
  rw [List.drop_of_length_le (by simp; have : s.size = s.data.size := rfl; omega), unE] at HP
  rw [unescO, ← HP]; simp
theorem un_none {s : ByteArray} (h : unE s.data.toList 0 = none) : unescS s = ⟨#[]⟩ ∧ unescE s = 4 := by
  simp [unescS, unescE, unescO, h]; rfl
theorem un_some {s t : ByteArray} (h : unescO s = some t) : unescS s = t ∧ unescE s = 0 := by
  simp [unescS, unescE, h]

set_option maxHeartbeats 4000000 in
theorem unesc_any (s : ByteArray) (w : World) (hs : s.size ≤ 1000000000) :
    Calls Tryz.prog 84 #[.string s] w fun e w' => e = .returned (.tuple #[.string (unescS s), .int .i64 (unescE s)]) ∧ Below w.heap.size w w' := by
  go_enter Tryz.func84, Tryz.ntmps84
  go_wp2_with fail
  go_loopw [5, 6, 7] (fun j _ _ wr => ∃ (k : Nat) (pre : List UInt8), k ≤ s.size ∧ j = .int .i64 k ∧ Bld w.heap.size w.heap.size pre wr ∧ Hid ((unE (s.data.toList.drop k) 0).map (pre ++ ·) = unE s.data.toList 0) ∧ pre.length ≤ k ∧ Below w.heap.size w wr) (fun i _ _ _ => s.size - (intOf i).toNat)
  case atStart => exact ⟨0, [], Nat.zero_le _, rfl, Bld.fresh w, Lib.hid (by simp), Nat.zero_le _, (Below.refl _ _).alloc (Nat.le_refl _) _⟩
  case round =>
    obtain ⟨k, pre, hk, rfl, hB, HP, hpl, hbr⟩ := hrel
    by_cases hlt : k < s.size
    · cases hp : plainB s[k] with
      | true =>
        have HQ := Lib.hid hp
        go_wp2_with fail
        refine (cplain_any s[k] wr).mono ?_
        rintro e w1 ⟨rfl, rfl⟩
        rw [hp]
        clear hp
        go_wp2_with fail
        refine (writeByte_any _ _ pre _ _ hB (by omega) hbr.size).mono ?_
        rintro e w1 ⟨rfl, hB1, hb1⟩
        go_wp2_with fail
        go_roundw
        case rel => exact ⟨k + 1, pre ++ [s[k]], by omega, by go_num, hB1, Lib.hid (un_plain hlt HQ.out HP.out), by simp; omega, hbr.trans hb1⟩
        case measure => simp [intOf]; omega
      | false =>
        have HQ := Lib.hid hp
        by_cases h37 : s[k].toNat = 37
        · have hcp := cplain_any s[k] wr
          have H37 := Lib.hid h37
          rw [h37, hp] at hcp
          clear hp
          by_cases h2 : k + 2 < s.size
          · have HX := un_hex h2 H37.out HP.out
            have hw1 : IntKind.i64.wrap ((k : Int) + 1) = (k : Int) + 1 := IntWalk.i64_in _ (by omega)
            have hb1a : (0 : Int) ≤ (k : Int) + 1 := by omega
            have hb1b : (k : Int) + 1 < (s.size : Int) := by omega
            have hb2a : (0 : Int) ≤ (k : Int) + 2 := by omega
            have hb2b : (k : Int) + 2 < (s.size : Int) := by omega
            have hw2 : IntKind.i64.wrap ((k : Int) + 2) = (k : Int) + 2 := IntWalk.i64_in _ (by omega)
            cases h1 : hexV s[k + 1] with
            | none =>
              rw [h1, Option.bind_none, Option.map_none] at HX
              have hN := Lib.hid (un_none HX.symm)
              have H1 := Lib.hid h1
              clear h1 HX
              obtain ⟨z, hz⟩ : ∃ z, Lib.indexByte hexTab.data.toList s[k + 2] = z := ⟨_, rfl⟩
              have HZ := Lib.hid hz
              clear hz
              go_wp2_with fail
              refine hcp.mono ?_
              rintro e w1 ⟨rfl, rfl⟩
              go_wp2_with fail
              go_quiet (first | (exact quiet_eq (index_hex_none _ _ H1.out)) | (exact quiet_eq (index_hex_at _ _ _ HZ.out)))
              go_wp2_with fail
              go_ret2
              exact ⟨ret_se hN.out.1.symm hN.out.2.symm, below_drewN hbr _⟩
            | some a =>
              rw [h1, Option.bind_some] at HX
              have H1 := Lib.hid h1
              have hal := hexV_lt h1
              clear h1
              cases hv2 : hexV s[k + 2] with
              | none =>
                rw [hv2, Option.bind_none, Option.map_none] at HX
                have hN := Lib.hid (un_none HX.symm)
                have H2 := Lib.hid hv2
                clear hv2 HX
                go_wp2_with fail
                refine hcp.mono ?_
                rintro e w1 ⟨rfl, rfl⟩
                go_wp2_with fail
                go_quiet (first | (exact quiet_eq (index_hex_some _ _ _ H1.out)) | (exact quiet_eq (index_hex_none _ _ H2.out)))
                go_wp2_with fail
                go_ret2
                exact ⟨ret_se hN.out.1.symm hN.out.2.symm, below_drewN hbr _⟩
              | some b =>
                rw [hv2, Option.bind_some] at HX
                have H2 := Lib.hid hv2
                have hbl := hexV_lt hv2
                clear hv2
                obtain ⟨z, HZ⟩ : ∃ z, Hid (a * 16 + b = z) := ⟨_, Lib.hid rfl⟩
                have hz0 : 0 ≤ (z : Int) := by omega
                have eor : bits BinOp.or IntKind.i64 ((a : Int) * 16) (b : Int) = (z : Int) := by rw [or_four a b (by omega) (by omega) (by omega) (by omega)]; have := HZ.out; omega
                obtain ⟨q, HQq⟩ : ∃ q, Hid (UInt8.ofNat (a * 16 + b) = q) := ⟨_, Lib.hid rfl⟩
                have eb : IntKind.u8.wrap (z : Int) = (q.toNat : Int) := by rw [wrap_u8, ← HQq.out, HZ.out]
                rw [HQq.out] at HX
                cases hq : plainB q with
                | true =>
                  rw [hq, if_pos rfl, Option.map_none] at HX
                  have hN := Lib.hid (un_none HX.symm)
                  clear HX
                  go_wp2_with fail
                  refine hcp.mono ?_
                  rintro e w1 ⟨rfl, rfl⟩
                  go_wp2_with fail
                  go_quiet (first | (exact quiet_eq (index_hex_some _ _ _ H1.out)) | (exact quiet_eq (index_hex_some _ _ _ H2.out)))
                  go_wp2_with fail
                  refine (cplain_any q _).mono ?_
                  rintro e w1 ⟨rfl, rfl⟩
                  rw [hq]
                  clear hq
                  go_wp2_with fail
                  go_ret2
                  exact ⟨ret_se hN.out.1.symm hN.out.2.symm, below_drewN hbr _⟩
                | false =>
                  rw [hq, if_neg (by decide), r64_snoc] at HX
                  have HP1 := Lib.hid HX
                  clear HX
                  go_wp2_with fail
                  refine hcp.mono ?_
                  rintro e w1 ⟨rfl, rfl⟩
                  go_wp2_with fail
                  go_quiet (first | (exact quiet_eq (index_hex_some _ _ _ H1.out)) | (exact quiet_eq (index_hex_some _ _ _ H2.out)))
                  go_wp2_with fail
                  refine (cplain_any q _).mono ?_
                  rintro e w1 ⟨rfl, rfl⟩
                  rw [hq]
                  clear hq
                  go_wp2_with fail
                  have hBq : Bld w.heap.size w.heap.size pre (wr.drewN nq) := Bld.drewN hB
                  have hbq := below_drewN hbr nq
                  refine (writeByte_any _ _ pre _ _ hBq (by omega) hbq.size).mono ?_
                  rintro e w1 ⟨rfl, hB1, hb1⟩
                  go_wp2_with fail
                  go_roundw
                  case rel => exact ⟨k + 3, pre ++ [q], by omega, by go_num, hB1, HP1, by simp; omega, hbq.trans hb1⟩
                  case measure => simp [intOf]; omega
          · have hN := Lib.hid (un_none (un_short hlt H37.out h2 HP.out))
            go_wp2_with fail
            refine hcp.mono ?_
            rintro e w1 ⟨rfl, rfl⟩
            go_wp2_with fail
            go_ret2
            exact ⟨ret_se hN.out.1.symm hN.out.2.symm, hbr⟩
        · have hN := Lib.hid (un_none (un_bad hlt hp h37 HP.out))
          go_wp2_with fail
          refine (cplain_any s[k] wr).mono ?_
          rintro e w1 ⟨rfl, rfl⟩
          rw [hp]
          clear hp
          go_wp2_with fail
          go_ret2
          exact ⟨ret_se hN.out.1.symm hN.out.2.symm, hbr⟩
    · have hS := Lib.hid (un_some (un_end hlt HP.out))
      go_wp2_with fail
      refine (bldString_any _ _ pre _ hB hbr.size).mono ?_
      rintro e w1 ⟨rfl, hb1⟩
      go_wp2_with fail
      go_ret2
      exact ⟨ret_se hS.out.1.symm hS.out.2.symm, hbr.trans hb1⟩
end Go.Proofs.YthdpkfddmkijlaaGreatDoor

/- identityref02.Base64 computes b64S. -/
namespace Go.Proofs.YthdpkfddmkijlaaGreatDoor
open Go.RowKit

theorem byteCells_at (l : List UInt8) (j : Nat) (h : j < l.length) : (Lib.byteCells l)[j]? = some (Value.int .u8 (l[j].toNat : Int)) := by
  simp [Lib.byteCells, h]
/-- string(b), b a row of bytes of the call's own. -/
theorem conv_own {w : World} {base n : Nat} {v : Value} {l : List UInt8} (h : w.ownsRow base 5 1 v n (Lib.byteCells l)) :
    (convert 81 9 v).run Tryz.prog w = .ok (.string ⟨l.toArray⟩) w := by
  have hl : l.length = n := by have := h.1; simpa [Lib.byteCells_length] using this
  subst hl
  rcases h.2 with ⟨rfl, h0⟩ | ⟨g, cap, cur, rfl, hg, hh, rest⟩
  · have : l = [] := List.eq_nil_of_length_eq_zero h0
    subst this
    exact Lib.run_convert_nil_bytes w 81 9 5 0 Tryz.underlying81 Tryz.underlying5 Tryz.underlying9
  · refine run_convert_bytes_back w 81 9 5 ⟨g, 0, none⟩ cap l Tryz.underlying81 Tryz.underlying5 Tryz.underlying9 (fun j hj => ?_)
    exact h.cells (g := g) rfl j _ (byteCells_at l j hj)
theorem byteCells_app (l m : List UInt8) : Lib.byteCells l ++ Lib.byteCells m = Lib.byteCells (l ++ m) := by simp [Lib.byteCells]
/-- A letter more. -/
theorem own_snoc {w : World} {base n : Nat} {v : Value} {l : List UInt8} {c : UInt8} (h : w.ownsRow base 5 1 v n (Lib.byteCells l ++ [Value.int .u8 (c.toNat : Int)])) :
    w.ownsRow base 5 1 v n (Lib.byteCells (l ++ [c])) := by
  rw [← byteCells_app]; exact h
theorem tab_lit (d : Nat) (h : d < 64) : (⟨#[65, 66, 67, 68, 69, 70, 71, 72, 73, 74, 75, 76, 77, 78, 79, 80, 81, 82, 83, 84, 85, 86, 87, 88, 89, 90, 97, 98, 99, 100, 101, 102, 103, 104, 105, 106, 107, 108, 109, 110, 111, 112, 113, 114, 115, 116, 117, 118, 119, 120, 121, 122, 48, 49, 50, 51, 52, 53, 54, 55, 56, 57, 45, 95]⟩ : ByteArray)[d]'h = b64Dig d := b64Tab_el d h h
theorem r_three {s : ByteArray} {k a b c d0 d1 d2 d3 : Nat} {pre L : List UInt8} (hk : k + 2 < s.size) (ha : s[k].toNat = a) (hb : s[k + 1].toNat = b) (hc : s[k + 2].toNat = c) (h0 : a / 4 = d0) (h1 : a % 4 * 16 + b / 16 = d1) (h2 : b % 16 * 4 + c / 64 = d2) (h3 : c % 64 = d3) (HP : pre ++ b64E (s.data.toList.drop k) 0 0 = L) :
    (pre ++ [b64Dig d0] ++ [b64Dig d1] ++ [b64Dig d2] ++ [b64Dig d3]) ++ b64E (s.data.toList.drop (k + 3)) 0 0 = L := by
  rw [drop_cons s k (by omega), b64E, drop_cons s (k + 1) (by omega), b64E, drop_cons s (k + 2) hk, b64E, ha, hb, hc, h0, h1, h2, h3] at HP
  · rw [← HP]; simp
  all_goals omega
theorem r_two {s : ByteArray} {k a b d0 d1 d2 : Nat} {pre L : List UInt8} (hk : k + 2 = s.size) (ha : (s[k]'(by omega)).toNat = a) (hb : (s[k + 1]'(by omega)).toNat = b) (h0 : a / 4 = d0) (h1 : a % 4 * 16 + b / 16 = d1) (h2 : b % 16 * 4 = d2) (HP : pre ++ b64E (s.data.toList.drop k) 0 0 = L) :
    (pre ++ [b64Dig d0] ++ [b64Dig d1] ++ [b64Dig d2]) ++ b64E (s.data.toList.drop (k + 3)) 0 0 = L := by
  rw [drop_cons s k (by omega), b64E, drop_cons s (k + 1) (by omega), b64E, List.drop_of_length_le (i := k + 1 + 1) (by simp; have : s.size = s.data.size := rfl; omega), b64E, ha, hb, h0, h1, h2] at HP
  · rw [← HP, List.drop_of_length_le (by simp; have : s.size = s.data.size := rfl; omega), b64E]; simp
  all_goals omega
theorem r_one {s : ByteArray} {k a d0 d1 : Nat} {pre L : List UInt8} (hk : k + 1 = s.size) (ha : (s[k]'(by omega)).toNat = a) (h0 : a / 4 = d0) (h1 : a % 4 * 16 = d1) (HP : pre ++ b64E (s.data.toList.drop k) 0 0 = L) :
    (pre ++ [b64Dig d0] ++ [b64Dig d1]) ++ b64E (s.data.toList.drop (k + 3)) 0 0 = L := by
  rw [drop_cons s k (by omega), b64E, List.drop_of_length_le (i := k + 1) (by simp; have : s.size = s.data.size := rfl; omega), b64E, ha, h0, h1] at HP
  rw [← HP, List.drop_of_length_le (by simp; have : s.size = s.data.size := rfl; omega), b64E]; simp

end Go.Proofs.YthdpkfddmkijlaaGreatDoor

/- identityref02.Escape and .Unescape compute escS, unescS. -/
namespace Go.Proofs.YthdpkfddmkijlaaGreatDoor
open Go.RowKit

theorem plainB_mk {c : UInt8} {b : Bool} (h : b = true ↔ (33 ≤ c.toNat ∧ c.toNat ≤ 126 ∧ c.toNat ≠ 37 ∧ c.toNat ≠ 124 ∧ c.toNat ≠ 44 ∧ c.toNat ≠ 61 ∧ c.toNat ≠ 59 ∧ c.toNat ≠ 34)) : b = plainB c := by
  rw [Bool.eq_iff_iff, h, plainB, decide_eq_true_iff]
set_option maxHeartbeats 2000000 in
theorem rplainB_any (c : UInt8) (w : World) :
    Calls Tryz.prog 103 #[.int .u8 (c.toNat : Int)] w fun e w' => e = .returned (.bool (plainB c)) ∧ w = w' := by
  have hcs : c.toNat = 37 ∨ c.toNat = 124 ∨ c.toNat = 44 ∨ c.toNat = 61 ∨ c.toNat = 59 ∨ c.toNat = 34 ∨ c.toNat < 33 ∨ c.toNat = 33 ∨ (34 < c.toNat ∧ c.toNat < 37) ∨ (37 < c.toNat ∧ c.toNat < 44) ∨ (44 < c.toNat ∧ c.toNat < 59) ∨ c.toNat = 60 ∨ (61 < c.toNat ∧ c.toNat < 124) ∨ c.toNat = 125 ∨ c.toNat = 126 ∨ 126 < c.toNat := by omega
  go_enter Tryz.func103, Tryz.ntmps103
  generalize hn : c.toNat = n at *
  have HN := Lib.hid hn
  clear hn
  rcases hcs with rfl | rfl | rfl | rfl | rfl | rfl | h | rfl | ⟨h1, h2⟩ | ⟨h1, h2⟩ | ⟨h1, h2⟩ | rfl | ⟨h1, h2⟩ | rfl | rfl | h
  all_goals
    go_wp2
    go_ret
    exact ⟨ret_bool (plainB_mk (by rw [HN.out]; simp; try omega)), rfl⟩

theorem hexTab_lt (k : Nat) (h : k < 16) (h' : k < hexTab.size) (c : UInt8) : hexTab[k] = c ↔ hexV c = some k := by
  rw [hexTab_el k h h']
  constructor
  · rintro rfl; exact hexV_dig k h
  · intro e; exact (hexU_val e).1
def digZ (c : UInt8) : Int := match hexV c with | none => -1 | some v => (v : Int)
theorem digZ_some {c : UInt8} {v : Nat} (h : hexV c = some v) : digZ c = (v : Int) := by simp [digZ, h]
theorem digZ_none {c : UInt8} (h : hexV c = none) : digZ c = -1 := by simp [digZ, h]
theorem dig_end {c : UInt8} (h : ∀ j, j < 16 → hexV c ≠ some j) : hexV c = none := by
  cases hv : hexV c with
  | none => rfl
  | some v => exact absurd hv (h v (hexV_lt hv))
set_option maxHeartbeats 1000000 in
theorem digit_any (c : UInt8) (w : World) :
    Calls Tryz.prog 109 #[.int .u8 (c.toNat : Int)] w fun e w' => e = .returned (.int .i64 (digZ c)) ∧ w = w' := by
  go_enter Tryz.func109, Tryz.ntmps109
  go_wp2_with fail
  go_loop [3] (fun i => ∃ k : Nat, k ≤ 16 ∧ i = .int .i64 k ∧ Hid (∀ j, j < k → hexV c ≠ some j)) (fun i => 16 - (intOf i).toNat)
  case atStart => exact ⟨0, Nat.zero_le _, rfl, Lib.hid (fun j h => by omega)⟩
  case round =>
    obtain ⟨k, hk, rfl, HA⟩ := hrel
    by_cases hlt : k < 16
    · have eA := hex_lit k hlt
      by_cases he : hexV c = some k
      · have HV := Lib.hid (digZ_some he)
        have hx : (hexU k) = c := (hexU_val he).1
        clear he
        go_wp2_with fail
        go_ret
        exact ⟨ret_int HV.out.symm, rfl⟩
      · have hx : ((((hexU k).toNat : Int) == (c.toNat : Int))) = false := by
          rw [beq_eq_false_iff_ne]
          intro e
          have : hexU k = c := UInt8.toNat_inj.1 (by omega)
          exact he (this ▸ hexV_dig k hlt)
        have HE := Lib.hid he
        clear he
        go_wp2_with fail
        go_round
        case rel => exact ⟨k + 1, by omega, by go_num, Lib.hid (fun j hj => by rcases Nat.lt_succ_iff_lt_or_eq.1 hj with h | rfl; exact HA.out j h; exact HE.out)⟩
        case measure => simp [intOf]; omega
    · have hV := Lib.hid (digZ_none (dig_end (fun j hj => HA.out j (by omega))))
      go_wp2_with fail
      go_ret
      exact ⟨ret_int hV.out.symm, rfl⟩

theorem cell_three_new (w : World) (x y z : Value) (t : TypeId) : ∀ j u, [x, y, z][j]? = some u → (w.alloc (.cells #[x, y, z] t)).cell? ((⟨w.heap.size, 0, none⟩ : Addr).add j) = some u := by
  intro j u hj
  match j, hj with
  | 0, hj => simp at hj; subst hj; simp [Addr.add]
  | 1, hj => simp at hj; subst hj; simp [Addr.add]
  | 2, hj => simp at hj; subst hj; simp [Addr.add]
theorem own_three {w : World} {base n : Nat} {v : Value} {l : List UInt8} {a b c : UInt8} (h : w.ownsRow base 5 1 v n (Lib.byteCells l ++ [Value.int .u8 (a.toNat : Int), Value.int .u8 (b.toNat : Int), Value.int .u8 (c.toNat : Int)])) :
    w.ownsRow base 5 1 v n (Lib.byteCells (l ++ [a] ++ [b] ++ [c])) := by
  have e : Lib.byteCells l ++ [Value.int .u8 (a.toNat : Int), Value.int .u8 (b.toNat : Int), Value.int .u8 (c.toNat : Int)] = Lib.byteCells (l ++ [a] ++ [b] ++ [c]) := by simp [Lib.byteCells]
  rw [← e]; exact h

set_option maxHeartbeats 2000000 in
set_option maxRecDepth 100000 in
theorem resc_any (s : ByteArray) (w : World) (hs : s.size ≤ 1000000000) :
    Calls Tryz.prog 81 #[.string s] w fun e w' => e = .returned (.string (escS s)) ∧ Below w.heap.size w w' := by
  obtain ⟨i0, hi, hz0, hz1, hz2⟩ := info_parts info_byte
  go_enter Tryz.func81, Tryz.ntmps81
  go_wp2_with fail
  go_loopw [3, 4] (fun v i wr => ∃ (k : Nat) (pre : List UInt8), k ≤ s.size ∧ i = .int .i64 k ∧ wr.ownsRow w.heap.size 5 1 v pre.length (Lib.byteCells pre) ∧ Hid (pre ++ escL (s.data.toList.drop k) = escL s.data.toList) ∧ pre.length ≤ 3 * k ∧ Below w.heap.size w wr) (fun _ i _ => s.size - (intOf i).toNat)
  case atStart => exact ⟨0, [], Nat.zero_le _, rfl, World.ownsRow_nil _ _ _ _, Lib.hid rfl, Nat.zero_le _, Below.refl _ _⟩
  case round =>
    obtain ⟨k, pre, hk, rfl, hown, HP, hpl, hbr⟩ := hrel
    by_cases hlt : k < s.size
    · cases hp : plainB s[k] with
      | true =>
        have HQ := Lib.hid hp
        go_wp2_with fail
        refine (rplainB_any s[k] wr).mono ?_
        rintro e w1 ⟨rfl, rfl⟩
        rw [hp]
        clear hp
        go_wp2_with (at_builtin; refine wpList_append_own _ rfl _ _ 81 rfl w.heap.size 5 i0 (.int .u8 0) 1 1 Tryz.underlying81 hi hz0 hz1 hz2 rfl (by decide) _ _ _ rfl (hown.alloc _) ⟨wr.heap.size, 0, none⟩ 1 1 [.int .u8 (s[k].toNat : Int)] rfl rfl (cell_one_new _ _ _) (by intro u hu; simp at hu; subst hu; rfl) (by unfold maxLen; simp; omega) (by simp; omega) (by have := hbr.size; simp; omega) ?_; intro v0 w0 ho0 hg0 _)
        have hb0 : Below w.heap.size w w0 := (hbr.alloc (hbr.size) _).grown hg0 (by have := hbr.size; simp; omega) (fun q hq => (hown.lt q hq).1)
        have hw0 := own_snoc ho0
        clear ho0 hg0
        go_wp2_with fail
        go_roundw
        case rel => exact ⟨k + 1, pre ++ [s[k]], by omega, by go_num, by simpa using hw0, Lib.hid (esc_step1 hlt HQ.out HP.out), by simp; omega, hb0⟩
        case measure => simp [intOf]; omega
      | false =>
        have HQ := Lib.hid hp
        obtain ⟨c, hc⟩ : ∃ c, s[k].toNat = c := ⟨_, rfl⟩
        have HC := Lib.hid hc
        have hcl : c < 256 := hc ▸ s[k].toNat_lt
        have hcp := rplainB_any s[k] wr
        rw [hc, hp] at hcp
        clear hp
        obtain ⟨a, HA⟩ : ∃ a, Hid (c / 16 = a) := ⟨_, Lib.hid rfl⟩
        have hal : a < 16 := by have := HA.out; omega
        have ea : (c : Int).tdiv 16 = (a : Int) := by have := HA.out; rw [Int.tdiv_eq_ediv_of_nonneg (by omega)]; omega
        obtain ⟨b, HB⟩ : ∃ b, Hid (c % 16 = b) := ⟨_, Lib.hid rfl⟩
        have hbl : b < 16 := by have := HB.out; omega
        have eb : (c : Int).tmod 16 = (b : Int) := by have := HB.out; rw [Int.tmod_eq_emod_of_nonneg (by omega)]; omega
        have wa : IntKind.u8.wrap (a : Int) = (a : Int) := by rw [IntKind.wrap_u8]; omega
        have wb : IntKind.u8.wrap (b : Int) = (b : Int) := by rw [IntKind.wrap_u8]; omega
        have eA := hex_lit a hal
        have eB := hex_lit b hbl
        have hi1 : (0 : Int) ≤ (k : Int) := by omega
        have hi2 : (k : Int) < (s.size : Int) := by omega
        have ha1 : (0 : Int) ≤ (a : Int) := by omega
        have ha2 : (a : Int) < 16 := by omega
        have hb1 : (0 : Int) ≤ (b : Int) := by omega
        have hb2 : (b : Int) < 16 := by omega
        go_wp2_with fail
        refine hcp.mono ?_
        rintro e w1 ⟨rfl, rfl⟩
        go_wp2_with fail
        have hown0 := hown.drew
        have hbr' := hbr.drew
        clear hcp
        go_region_law (refine step_append_lies _ (by rfl) _ _ _ (by rfl) w.heap.size 5 i0 _ 1 1 Tryz.underlying81 hi hz0 hz1 hz2 rfl (by omega) _ pre.length (Lib.byteCells pre) (by rfl) (hown0.alloc _) ⟨wr.heap.size, 0, none⟩ 3 3 [.int .u8 37, .int .u8 ((hexU a).toNat : Int), .int .u8 ((hexU b).toNat : Int)] (by rfl) (by rfl) ?_ ?_ (by omega) (by unfold maxLen; omega) (by omega) ?_ (wr.heap.size + 1) ?_ ?_; exact cell_three_new _ _ _ _ _; (intro u hu; simp at hu; rcases hu with rfl | rfl | rfl <;> rfl); (have := hbr.size; simp; omega); (simp); (intro gg cap w0 ho0 hg0 hat hlt3))
        all_goals
          have hb0 : Below w.heap.size w w0 := (hbr'.alloc (hbr'.size) _).grown hg0 (by have : w.heap.size ≤ wr.heap.size := hbr.size; simp; omega) (fun q hq => (hown0.lt q hq).1)
          have hw0 := own_three (a := 37) ho0
          clear ho0 hg0
          go_wp2_with fail
          have hP := esc_step3 hlt HQ.out HC.out HA.out HB.out HP.out
          go_roundw
          case rel => exact ⟨k + 1, _, by omega, by go_num, by simpa using hw0, Lib.hid hP, by simp; omega, hb0⟩
          case measure => simp [intOf]; omega
    · have HE := Lib.hid (esc_end hlt HP.out)
      have hcv := conv_own hown
      go_wp2_with fail
      go_ret
      exact ⟨ret_str HE.out, hbr⟩
end Go.Proofs.YthdpkfddmkijlaaGreatDoor

