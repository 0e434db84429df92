/- Plain functions for the layer codec: lists and pairs. No program in sight. -/
import Derived.Test.YtnkblimmlkidcaaDoorCodEsc
namespace Go.Proofs.YtnkblimmlkidcaaDoor
open Go.RowKit

/-- The pieces of a list of bytes between the bytes c. -/
def cutL (c : UInt8) : List UInt8 → List (List UInt8)
  | [] => [[]]
  | x :: r => if x = c then [] :: cutL c r else match cutL c r with
    | [] => [[x]]
    | p :: ps => (x :: p) :: ps
/-- The pieces with a byte c between them. -/
def joinL (c : UInt8) : List (List UInt8) → List UInt8
  | [] => []
  | [p] => p
  | p :: q :: r => p ++ c :: joinL c (q :: r)
theorem cutL_ne (c : UInt8) (l : List UInt8) : cutL c l ≠ [] := by
  cases l with
  | nil => simp [cutL]
  | cons x r =>
    rw [cutL]
    split
    · simp
    · split <;> simp
theorem joinL_cons (c : UInt8) (p : List UInt8) (ps : List (List UInt8)) (h : ps ≠ []) : joinL c (p :: ps) = p ++ c :: joinL c ps := by
  cases ps with
  | nil => exact absurd rfl h
  | cons q r => rfl
theorem join_cut (c : UInt8) (l : List UInt8) : joinL c (cutL c l) = l := by
  induction l with
  | nil => rfl
  | cons x r ih =>
    rw [cutL]
    split
    · rename_i h; rw [joinL_cons c _ _ (cutL_ne c r), ih, h]; rfl
    · have hne := cutL_ne c r
      cases hc : cutL c r with
      | nil => exact absurd hc hne
      | cons p ps =>
        rw [hc] at ih
        cases ps with
        | nil => simp only [joinL] at ih ⊢; rw [ih]
        | cons q ps => rw [joinL_cons c _ _ (by simp)] at ih ⊢; rw [← ih]; rfl
theorem cutL_nil {c : UInt8} {l : List UInt8} (h : c ∉ l) : cutL c l = [l] := by
  induction l with
  | nil => rfl
  | cons x r ih =>
    rw [cutL, if_neg (fun e => h (by rw [e]; simp)), ih (fun hm => h (List.mem_cons_of_mem _ hm))]
theorem cutL_app {c : UInt8} {p : List UInt8} (h : c ∉ p) (l : List UInt8) : cutL c (p ++ c :: l) = p :: cutL c l := by
  induction p with
  | nil => simp [cutL]
  | cons x r ih =>
    rw [List.cons_append, cutL, if_neg (fun e => h (by rw [e]; simp)), ih (fun hm => h (List.mem_cons_of_mem _ hm))]
theorem cut_join {c : UInt8} : ∀ (ps : List (List UInt8)), ps ≠ [] → (∀ p ∈ ps, c ∉ p) → cutL c (joinL c ps) = ps
  | [], h, _ => absurd rfl h
  | [p], _, h => cutL_nil (h p (by simp))
  | p :: q :: r, _, h => by
    rw [joinL, cutL_app (h p (by simp)), cut_join (q :: r) (by simp) (fun x hx => h x (List.mem_cons_of_mem _ hx))]
theorem cutL_mem (c : UInt8) (l : List UInt8) : ∀ p ∈ cutL c l, c ∉ p := by
  induction l with
  | nil => intro p hp; simp [cutL] at hp; subst hp; simp
  | cons x r ih =>
    intro p hp
    rw [cutL] at hp
    split at hp
    · rw [List.mem_cons] at hp
      rcases hp with rfl | hp
      · simp
      · exact ih p hp
    · rename_i hx
      cases hc : cutL c r with
      | nil => exact absurd hc (cutL_ne c r)
      | cons q qs =>
        rw [hc] at hp ih
        simp only [List.mem_cons] at hp
        rcases hp with rfl | hp
        · intro hm
          rw [List.mem_cons] at hm
          rcases hm with hm | hm
          · exact hx hm.symm
          · exact ih q (by simp) hm
        · exact ih p (List.mem_cons_of_mem _ hp)
theorem escC_nosep (c d : UInt8) (h : plainB d = false) (h37 : d ≠ 37) : d ∉ escC c := by
  unfold escC
  split
  · rename_i hp
    intro hm
    simp at hm
    rw [hm, hp] at h; cases h
  · intro hm
    have hc := c.toNat_lt
    simp only [List.mem_cons, List.not_mem_nil, or_false] at hm
    rcases hm with hm | hm | hm
    · exact h37 hm
    · rw [hm, hexU_plain _ (by omega)] at h; cases h
    · rw [hm, hexU_plain _ (by omega)] at h; cases h
/-- A separator does not occur in an escaped form. -/
theorem escL_nosep (l : List UInt8) (d : UInt8) (h : plainB d = false) (h37 : d ≠ 37) : d ∉ escL l := by
  induction l with
  | nil => simp [escL]
  | cons c r ih =>
    rw [escL, List.mem_append]
    rintro (hm | hm)
    · exact escC_nosep c d h h37 hm
    · exact ih hm

/-- codec.Join on lists of bytes. -/
def joinE (l : List (List UInt8)) : List UInt8 := if l = [] then [45] else if l = [[45]] then [37, 50, 68] else joinL 124 (l.map escL)
/-- All pieces read. -/
def unAll : List (List UInt8) → Option (List (List UInt8))
  | [] => some []
  | p :: ps => (unE p 0).bind fun q => (unAll ps).map (q :: ·)
/-- codec.Split on lists of bytes. -/
def splitE (t : List UInt8) : Option (List (List UInt8)) := if t = [45] then some [] else if t = [37, 50, 68] then some [[45]] else unAll (cutL 124 t)
theorem unAll_esc (l : List (List UInt8)) : unAll (l.map escL) = some l := by
  induction l with
  | nil => rfl
  | cons p ps ih => rw [List.map_cons, unAll, unE_esc, Option.bind_some, ih]; rfl
theorem esc_unAll : ∀ (ps l : List (List UInt8)), unAll ps = some l → l.map escL = ps
  | [], l, h => by simp [unAll] at h; subst h; rfl
  | p :: ps, l, h => by
    rw [unAll] at h
    cases hp : unE p 0 with
    | none => rw [hp] at h; cases h
    | some q =>
      rw [hp, Option.bind_some, Option.map_eq_some_iff] at h
      obtain ⟨r, h1, rfl⟩ := h
      rw [List.map_cons, unE_forth hp, esc_unAll ps r h1]
theorem un_dash : unE [45] 0 = some [45] := by decide
theorem un_2d : unE [37, 50, 68] 0 = none := by decide
theorem split_join (l : List (List UInt8)) : splitE (joinE l) = some l := by
  unfold joinE
  by_cases h0 : l = []
  · rw [if_pos h0, splitE, if_pos rfl, h0]
  · rw [if_neg h0]
    by_cases h1 : l = [[45]]
    · rw [if_pos h1, splitE, if_neg (by decide), if_pos rfl, h1]
    · rw [if_neg h1]
      have hns : ∀ p ∈ l.map escL, (124 : UInt8) ∉ p := by
        intro p hp
        rw [List.mem_map] at hp
        obtain ⟨q, _, rfl⟩ := hp
        exact escL_nosep q 124 (by decide) (by decide)
      have hc : cutL 124 (joinL 124 (l.map escL)) = l.map escL := cut_join _ (by simpa using h0) hns
      have key : ∀ t, joinL 124 (l.map escL) = t → (124 : UInt8) ∉ t → l.map escL = [t] := by
        intro t ht hn
        rw [ht, cutL_nil hn] at hc
        exact hc.symm
      rw [splitE, if_neg, if_neg, hc, unAll_esc]
      · intro h
        have := key _ h (by decide)
        have h2 := unAll_esc l
        rw [this, unAll, un_2d] at h2; cases h2
      · intro h
        have := key _ h (by decide)
        have h2 := unAll_esc l
        rw [this, unAll, un_dash] at h2
        simp [unAll] at h2
        exact h1 h2.symm
theorem join_split (t : List UInt8) (l : List (List UInt8)) (h : splitE t = some l) : joinE l = t := by
  unfold splitE at h
  split at h
  · rename_i ht; cases h; rw [joinE, if_pos rfl, ht]
  · split at h
    · rename_i ht; cases h; rw [joinE, if_neg (by simp), if_pos rfl, ht]
    · rename_i h45 h2d
      have hm := esc_unAll _ _ h
      have hne : l ≠ [] := by
        intro e; rw [e] at hm
        exact cutL_ne 124 t hm.symm
      have h1 : l ≠ [[45]] := by
        intro e
        rw [e] at hm
        have hj := join_cut 124 t
        rw [← hm] at hj
        exact h45 hj.symm
      rw [joinE, if_neg hne, if_neg h1, hm, join_cut]
theorem joinE_inj {a b : List (List UInt8)} (h : joinE a = joinE b) : a = b := by
  have := split_join a
  rw [h, split_join] at this
  exact (Option.some.inj this).symm

/-- A pair, written. -/
def pairE (p : List UInt8 × List UInt8) : List UInt8 := escL p.1 ++ 61 :: escL p.2
/-- codec.Pairs on lists of bytes. -/
def pairsE (l : List (List UInt8 × List UInt8)) : List UInt8 := joinL 124 (l.map pairE)
/-- A pair, read. -/
def unPair (t : List UInt8) : Option (List UInt8 × List UInt8) :=
  if (61 : UInt8) ∈ t then (unE (t.takeWhile (· ≠ 61)) 0).bind fun k => (unE ((t.dropWhile (· ≠ 61)).tail) 0).map fun v => (k, v) else none
def unPairs : List (List UInt8) → Option (List (List UInt8 × List UInt8))
  | [] => some []
  | p :: ps => (unPair p).bind fun q => (unPairs ps).map (q :: ·)
/-- codec.ReadPairs on lists of bytes. -/
def readPairsE (t : List UInt8) : Option (List (List UInt8 × List UInt8)) := if t = [] then some [] else unPairs (cutL 124 t)
theorem take_eq {k v : List UInt8} (h : (61 : UInt8) ∉ k) : (k ++ 61 :: v).takeWhile (· ≠ 61) = k ∧ ((k ++ 61 :: v).dropWhile (· ≠ 61)).tail = v := by
  induction k with
  | nil => simp
  | cons x r ih =>
    have hx : x ≠ 61 := fun e => h (by rw [e]; simp)
    have := ih (fun hm => h (List.mem_cons_of_mem _ hm))
    simpa [hx] using this
theorem mem_parts {t : List UInt8} (h : (61 : UInt8) ∈ t) : t = t.takeWhile (· ≠ 61) ++ 61 :: (t.dropWhile (· ≠ 61)).tail ∧ (61 : UInt8) ∉ t.takeWhile (· ≠ 61) := by
  induction t with
  | nil => simp at h
  | cons x r ih =>
    by_cases hx : x = 61
    · subst hx; simp
    · have hm : (61 : UInt8) ∈ r := by
        rw [List.mem_cons] at h
        rcases h with h | h
        · exact absurd h.symm hx
        · exact h
      obtain ⟨h1, h2⟩ := ih hm
      refine ⟨?_, ?_⟩
      · simpa [hx] using h1
      · simp only [ne_eq, hx, not_false_eq_true, decide_true, List.takeWhile_cons_of_pos, List.mem_cons, not_or]
        exact ⟨fun e => hx e.symm, by simpa using h2⟩
theorem unPair_pair (p : List UInt8 × List UInt8) : unPair (pairE p) = some p := by
  obtain ⟨k, v⟩ := p
  have hk : (61 : UInt8) ∉ escL k := escL_nosep k 61 (by decide) (by decide)
  obtain ⟨h1, h2⟩ := take_eq (v := escL v) hk
  rw [unPair, pairE, if_pos (by simp), h1, h2, unE_esc, unE_esc]; rfl
theorem pair_unPair {t : List UInt8} {p : List UInt8 × List UInt8} (h : unPair t = some p) : pairE p = t := by
  unfold unPair at h
  split at h
  · rename_i hm
    obtain ⟨h1, _⟩ := mem_parts hm
    cases hk : unE (t.takeWhile (· ≠ 61)) 0 with
    | none => rw [hk] at h; cases h
    | some k =>
      rw [hk, Option.bind_some, Option.map_eq_some_iff] at h
      obtain ⟨v, hv, rfl⟩ := h
      rw [pairE, unE_forth hk, unE_forth hv, ← h1]
  · cases h
theorem unPairs_pairs (l : List (List UInt8 × List UInt8)) : unPairs (l.map pairE) = some l := by
  induction l with
  | nil => rfl
  | cons p ps ih => rw [List.map_cons, unPairs, unPair_pair, Option.bind_some, ih]; rfl
theorem pairs_unPairs : ∀ (ps : List (List UInt8)) (l : List (List UInt8 × List UInt8)), unPairs ps = some l → l.map pairE = ps
  | [], l, h => by simp [unPairs] at h; subst h; rfl
  | p :: ps, l, h => by
    rw [unPairs] at h
    cases hp : unPair p with
    | none => rw [hp] at h; cases h
    | some q =>
      rw [hp, Option.bind_some, Option.map_eq_some_iff] at h
      obtain ⟨r, h1, rfl⟩ := h
      rw [List.map_cons, pair_unPair hp, pairs_unPairs ps r h1]
theorem pairE_nosep (p : List UInt8 × List UInt8) : (124 : UInt8) ∉ pairE p := by
  rw [pairE, List.mem_append, List.mem_cons]
  rintro (hm | hm | hm)
  · exact escL_nosep _ 124 (by decide) (by decide) hm
  · cases hm
  · exact escL_nosep _ 124 (by decide) (by decide) hm
theorem pairE_ne (p : List UInt8 × List UInt8) : pairE p ≠ [] := by simp [pairE]
theorem joinL_nil {c : UInt8} {ps : List (List UInt8)} (h : joinL c ps = []) : ps = [] ∨ ps = [[]] := by
  cases ps with
  | nil => exact .inl rfl
  | cons p ps =>
    cases ps with
    | nil => right; simp only [joinL] at h; rw [h]
    | cons q r => simp [joinL] at h
theorem readPairs_pairs (l : List (List UInt8 × List UInt8)) : readPairsE (pairsE l) = some l := by
  unfold readPairsE
  by_cases h0 : l = []
  · subst h0; rfl
  · rw [if_neg, pairsE, cut_join _ (by simpa using h0), unPairs_pairs]
    · intro p hp
      rw [List.mem_map] at hp
      obtain ⟨q, _, rfl⟩ := hp
      exact pairE_nosep q
    · intro h
      rcases joinL_nil h with h | h
      · simp at h; exact h0 h
      · cases l with
        | nil => exact h0 rfl
        | cons p ps => simp at h; exact pairE_ne p h.1
theorem pairs_readPairs (t : List UInt8) (l : List (List UInt8 × List UInt8)) (h : readPairsE t = some l) : pairsE l = t := by
  unfold readPairsE at h
  split at h
  · rename_i ht; cases h; rw [ht]; rfl
  · rw [pairsE, pairs_unPairs _ _ h, join_cut]
end Go.Proofs.YtnkblimmlkidcaaDoor
