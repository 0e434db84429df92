/- Joined: AudPut. -/
import Derived.Test.YthdpkfddmkijlaaGreatDoorSeg11
import Derived.Test.YthdpkfddmkijlaaGreatDoorSeg7
import Derived.Test.YthdpkfddmkijlaaGreatDoorSeg6
/- One event of a list is replaced: memory and plain laws. -/
namespace Go.Proofs.YthdpkfddmkijlaaGreatDoor
open Go.RowKit

theorem evs_row_at {w : World} {b o : Nat} {l : List Ev} (h : EvsAt w (some ⟨b, o, none⟩) l) : ∀ j u, (evCs l)[j]? = some u → w.cell? ((⟨b, o, none⟩ : Addr).add j) = some u := by
  intro j u hu
  have hj : j < l.length * 6 := by
    have := (List.getElem?_eq_some_iff.1 hu).1
    rwa [evCs_len] at this
  obtain ⟨i, m, h6, rfl⟩ : ∃ i m, m < 6 ∧ j = i * 6 + m := ⟨j / 6, j % 6, by omega, by omega⟩
  have hi : i < l.length := by omega
  obtain ⟨b', o', e, h0, h1, h2, h3, h4, h5⟩ := h i hi
  injection e with e; injection e with e1 e2
  subst e1; subst e2
  rw [addr_add_off, ← hu, evCs_at l i m hi h6, ← Nat.add_assoc]
  match m, h6 with
  | 0, _ => exact h0
  | 1, _ => exact h1
  | 2, _ => exact h2
  | 3, _ => exact h3
  | 4, _ => exact h4
  | 5, _ => exact h5
/-- An event is stored into a slice of events. -/
def put6 (w : World) (g k : Nat) (t r : Int) (tn ac an ob : ByteArray) : World :=
  (((((w.setCell ⟨g, k, none⟩ (.int .i64 t)).setCell ⟨g, k + 1, none⟩ (.string tn)).setCell ⟨g, k + 2, none⟩ (.string ac)).setCell ⟨g, k + 3, none⟩ (.string an)).setCell ⟨g, k + 4, none⟩ (.string ob)).setCell ⟨g, k + 5, none⟩ (.int .i64 r)
theorem set_ne {w : World} {g i j : Nat} {u : Value} (h : i ≠ j) : (w.setCell ⟨g, i, none⟩ u).cell? ⟨g, j, none⟩ = w.cell? ⟨g, j, none⟩ := World.cell?_setCell_other _ _ _ _ (by intro e; injection e with _ e; exact h e)
theorem put6_far (w : World) (g k : Nat) (t r : Int) (tn ac an ob : ByteArray) (j : Nat) (h : j < k ∨ k + 6 ≤ j) : (put6 w g k t r tn ac an ob).cell? ⟨g, j, none⟩ = w.cell? ⟨g, j, none⟩ := by
  unfold put6
  rw [set_ne (by omega), set_ne (by omega), set_ne (by omega), set_ne (by omega), set_ne (by omega), set_ne (by omega)]
theorem put6_at {w : World} {g k : Nat} (t r : Int) (tn ac an ob : ByteArray) (h : ∀ j, j < 6 → (w.cell? ⟨g, k + j, none⟩).isSome = true) :
    (put6 w g k t r tn ac an ob).cell? ⟨g, k, none⟩ = some (.int .i64 t) ∧ (put6 w g k t r tn ac an ob).cell? ⟨g, k + 1, none⟩ = some (.string tn) ∧ (put6 w g k t r tn ac an ob).cell? ⟨g, k + 2, none⟩ = some (.string ac) ∧ (put6 w g k t r tn ac an ob).cell? ⟨g, k + 3, none⟩ = some (.string an) ∧ (put6 w g k t r tn ac an ob).cell? ⟨g, k + 4, none⟩ = some (.string ob) ∧ (put6 w g k t r tn ac an ob).cell? ⟨g, k + 5, none⟩ = some (.int .i64 r) := by
  unfold put6
  refine ⟨?_, ?_, ?_, ?_, ?_, ?_⟩
  · rw [set_ne (by omega), set_ne (by omega), set_ne (by omega), set_ne (by omega), set_ne (by omega)]
    exact World.cell?_setCell_same' _ _ _ (h 0 (by omega))
  · rw [set_ne (by omega), set_ne (by omega), set_ne (by omega), set_ne (by omega)]
    exact World.cell?_setCell_same' _ _ _ (by rw [set_ne (by omega)]; exact h 1 (by omega))
  · rw [set_ne (by omega), set_ne (by omega), set_ne (by omega)]
    exact World.cell?_setCell_same' _ _ _ (by rw [set_ne (by omega), set_ne (by omega)]; exact h 2 (by omega))
  · rw [set_ne (by omega), set_ne (by omega)]
    exact World.cell?_setCell_same' _ _ _ (by rw [set_ne (by omega), set_ne (by omega), set_ne (by omega)]; exact h 3 (by omega))
  · rw [set_ne (by omega)]
    exact World.cell?_setCell_same' _ _ _ (by rw [set_ne (by omega), set_ne (by omega), set_ne (by omega), set_ne (by omega)]; exact h 4 (by omega))
  · exact World.cell?_setCell_same' _ _ _ (by rw [set_ne (by omega), set_ne (by omega), set_ne (by omega), set_ne (by omega), set_ne (by omega)]; exact h 5 (by omega))
theorem EvsAt.put {w : World} {g k : Nat} {l : List Ev} (h : EvsAt w (some ⟨g, 0, none⟩) l) (hk : k < l.length) (t r : Int) (tn ac an ob : ByteArray) : EvsAt (put6 w g (k * 6) t r tn ac an ob) (some ⟨g, 0, none⟩) (l.set k ⟨t, tn, ac, an, ob, r⟩) := by
  intro i hi
  have hi' : i < l.length := by simpa using hi
  refine ⟨g, 0, rfl, ?_⟩
  by_cases e : i = k
  · subst e
    rw [List.getElem_set_self]
    have hs : ∀ j, j < 6 → (w.cell? ⟨g, i * 6 + j, none⟩).isSome = true := by
      obtain ⟨b', o', e, h0, h1, h2, h3, h4, h5⟩ := h i hi'
      injection e with e; injection e with e1 e2
      subst e1; subst e2
      rw [Nat.zero_add] at h0 h1 h2 h3 h4 h5
      intro j hj
      match j, hj with
      | 0, _ => exact Option.isSome_iff_exists.2 ⟨_, h0⟩
      | 1, _ => exact Option.isSome_iff_exists.2 ⟨_, h1⟩
      | 2, _ => exact Option.isSome_iff_exists.2 ⟨_, h2⟩
      | 3, _ => exact Option.isSome_iff_exists.2 ⟨_, h3⟩
      | 4, _ => exact Option.isSome_iff_exists.2 ⟨_, h4⟩
      | 5, _ => exact Option.isSome_iff_exists.2 ⟨_, h5⟩
    have hp := put6_at t r tn ac an ob hs
    simp only [Nat.zero_add]
    exact hp
  · rw [List.getElem_set_ne (Ne.symm e)]
    obtain ⟨b', o', e', h0, h1, h2, h3, h4, h5⟩ := h i hi'
    injection e' with e'; injection e' with e1 e2
    subst e1; subst e2
    exact ⟨(put6_far _ _ _ _ _ _ _ _ _ _ (by omega)).trans h0, (put6_far _ _ _ _ _ _ _ _ _ _ (by omega)).trans h1, (put6_far _ _ _ _ _ _ _ _ _ _ (by omega)).trans h2, (put6_far _ _ _ _ _ _ _ _ _ _ (by omega)).trans h3, (put6_far _ _ _ _ _ _ _ _ _ _ (by omega)).trans h4, (put6_far _ _ _ _ _ _ _ _ _ _ (by omega)).trans h5⟩
theorem take_evs {w : World} {A : Option Addr} {l : List Ev} (h : EvsAt w A l) (k : Nat) : EvsAt w A (l.take k) := by
  intro i hi
  have hi' : i < l.length := by have := hi; simp at this; omega
  have := h i hi'
  simpa using this
/-- What the law says of the replaced event. -/
theorem found_law {l : List Ev} {k : Nat} {x : Ev} (hk : k < l.length) (hv : firstE l = 0) (hx : lineE x = 0) (hne : l[k] ≠ x) :
    verS (l.set k x) (headsS l) = (k : Int) ∨ collR (dgdL ((l.take (k + 1)).map lineS)).reverse (dgdL (((l.set k x).take (k + 1)).map lineS)).reverse = true := by
  have hall := firstE_all.1 hv
  have hlk := hall _ (List.getElem_mem hk)
  have hs : lineS l[k] ≠ lineS x := fun e => by
    have h1 := (line_back hlk).2
    have h2 := (line_back hx).2
    rw [e, h2] at h1
    exact hne h1.symm
  have e1 : (dgdL ((l.take (k + 1)).map lineS)).reverse = digR (lineS l[k] :: ((l.take k).map lineS).reverse) := by
    rw [dgdL, List.reverse_reverse, List.take_succ_eq_append_getElem hk, List.map_append, List.reverse_append]; rfl
  have hk2 : k < (l.set k x).length := by simpa using hk
  have e2 : (dgdL (((l.set k x).take (k + 1)).map lineS)).reverse = digR (lineS x :: ((l.take k).map lineS).reverse) := by
    rw [dgdL, List.reverse_reverse, List.take_succ_eq_append_getElem hk2, List.take_set_of_le (Nat.le_refl _), List.getElem_set_self, List.map_append, List.reverse_append]; rfl
  rw [e1, e2]
  rcases found (L := ((l.take k).map lineS).reverse) hs with h | h
  · refine .inl ?_
    rw [headsS, if_pos hv, verS, ver_found l x k hk startS 0 hall]
    · rw [Nat.zero_add]; rfl
    · rw [head_start]; exact h
  · exact .inr h
theorem ver_none {l : List Ev} (hv : firstE l = 0) : verS l (headsS l) = -1 := by
  rw [headsS, if_pos hv, verS, ver_self l startS 0 (firstE_all.1 hv)]; rfl
end Go.Proofs.YthdpkfddmkijlaaGreatDoor

