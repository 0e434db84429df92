/- Plain: how long the forms of lists and of pairs are. -/
import Derived.Test.YtnkblimmlkidcaaDoorCodSplit
import Derived.Test.YtnkblimmlkidcaaDoorCodReadW
namespace Go.Proofs.YtnkblimmlkidcaaDoor
open Go.RowKit

theorem escL_ge (l : List UInt8) : l.length ≤ (escL l).length := by
  have h : unescO (escS ⟨l.toArray⟩) = some ⟨l.toArray⟩ := unesc_esc _
  have := unescO_size h
  have e1 : (⟨l.toArray⟩ : ByteArray).size = l.length := by show l.toArray.size = _; simp
  have e2 : (escS ⟨l.toArray⟩).size = (escL l).length := by show (escL _).toArray.size = _; simp
  omega
theorem escL_le (l : List UInt8) : (escL l).length ≤ 3 * l.length := by
  have := escS_size ⟨l.toArray⟩
  have e1 : (⟨l.toArray⟩ : ByteArray).size = l.length := by show l.toArray.size = _; simp
  have e2 : (escS ⟨l.toArray⟩).size = (escL l).length := by show (escL _).toArray.size = _; simp
  omega
theorem joinL_one (c : UInt8) (p : List UInt8) : joinL c [p] = p := rfl
theorem joinL_le (c : UInt8) (B : Nat) : ∀ ps : List (List UInt8), (∀ p ∈ ps, p.length ≤ B) → (joinL c ps).length ≤ ps.length * (B + 1)
  | [], _ => by simp [joinL]
  | p :: ps, h => by
    have hp := h p (by simp)
    by_cases hn : ps = []
    · subst hn; rw [joinL_one]; simp; omega
    · rw [joinL_cons c p ps hn]
      have ih := joinL_le c B ps (fun q hq => h q (List.mem_cons_of_mem _ hq))
      simp only [List.length_append, List.length_cons]
      rw [Nat.add_mul]; omega
theorem joinL_ge (c : UInt8) : ∀ ps : List (List UInt8), ps.length ≤ (joinL c ps).length + 1 ∧ ∀ p ∈ ps, p.length ≤ (joinL c ps).length
  | [] => by simp
  | p :: ps => by
    by_cases hn : ps = []
    · subst hn; rw [joinL_one]; simp
    · rw [joinL_cons c p ps hn]
      have ih := joinL_ge c ps
      refine ⟨by simp; omega, fun q hq => ?_⟩
      rw [List.mem_cons] at hq
      rcases hq with rfl | hq
      · simp
      · have := ih.2 q hq
        simp; omega
theorem bs_len (l : List UInt8) : (bsOf l).size = l.length := by show l.toArray.size = _; simp
theorem joinS_le (l : List ByteArray) (B : Nat) (h : ∀ s ∈ l, s.size ≤ B) : (joinS l).size ≤ 3 + l.length * (3 * B + 1) := by
  by_cases h0 : l = []
  · subst h0; rw [joinS_nil]; show 1 ≤ _; omega
  by_cases h1 : l = [⟨#[45]⟩]
  · subst h1; rw [joinS_dash]; show 3 ≤ _; omega
  rw [joinS_else l h0 h1, joinC, bs_len]
  have := joinL_le 124 (3 * B) ((l.map escS).map (·.data.toList)) (fun p hp => by
    simp only [List.mem_map] at hp
    obtain ⟨_, ⟨s, hs, rfl⟩, rfl⟩ := hp
    have h2 := escS_size s
    have h3 := h s hs
    have e : (escS s).data.toList.length = (escS s).size := by simp
    omega)
  simp only [List.length_map] at this
  omega
theorem split_len {s : ByteArray} {l : List ByteArray} (h : splitO s = some l) : l.length ≤ s.size + 1 ∧ ∀ t ∈ l, t.size ≤ s.size + 1 := by
  have hj := join_splitS h
  by_cases h0 : l = []
  · subst h0; simp
  by_cases h1 : l = [⟨#[45]⟩]
  · subst h1; refine ⟨by simp, fun t ht => ?_⟩
    rw [List.mem_singleton] at ht; subst ht; show 1 ≤ _; omega
  rw [joinS_else l h0 h1, joinC] at hj
  have hz : s.size = (joinL 124 ((l.map escS).map (·.data.toList))).length := by rw [← hj, bs_len]
  obtain ⟨g1, g2⟩ := joinL_ge 124 ((l.map escS).map (·.data.toList))
  simp only [List.length_map] at g1
  refine ⟨by omega, fun t ht => ?_⟩
  have := g2 (escS t).data.toList (by simp only [List.mem_map]; exact ⟨_, ⟨t, ht, rfl⟩, rfl⟩)
  have h3 : t.size ≤ (escS t).size := unescO_size (unesc_esc t)
  have e : (escS t).data.toList.length = (escS t).size := by simp
  omega
theorem pairS_le (p : ByteArray × ByteArray) : (pairS p).size ≤ 3 * p.1.size + 3 * p.2.size + 1 ∧ p.1.size ≤ (pairS p).size ∧ p.2.size ≤ (pairS p).size := by
  have e1 := escS_size p.1
  have e2 := escS_size p.2
  have e3 : (⟨#[61]⟩ : ByteArray).size = 1 := rfl
  have e4 : p.1.size ≤ (escS p.1).size := unescO_size (unesc_esc _)
  have e5 : p.2.size ≤ (escS p.2).size := unescO_size (unesc_esc _)
  rw [pairS, ByteArray.size_append, ByteArray.size_append, e3]; omega
theorem pairsS_le (l : List (ByteArray × ByteArray)) (B : Nat) (h : ∀ p ∈ l, p.1.size ≤ B ∧ p.2.size ≤ B) : (pairsS l).size ≤ l.length * (6 * B + 2) := by
  rw [pairsS_eq, joinC, bs_len]
  have := joinL_le 124 (6 * B + 1) ((l.map pairS).map (·.data.toList)) (fun p hp => by
    simp only [List.mem_map] at hp
    obtain ⟨_, ⟨s, hs, rfl⟩, rfl⟩ := hp
    have h2 := pairS_le s
    have h3 := h s hs
    have e : (pairS s).data.toList.length = (pairS s).size := by simp
    omega)
  simpa using this
theorem readPairs_len {s : ByteArray} {l : List (ByteArray × ByteArray)} (h : readPairsO s = some l) : l.length ≤ s.size + 1 ∧ ∀ p ∈ l, p.1.size ≤ s.size ∧ p.2.size ≤ s.size := by
  have hj := pairs_readPairsS h
  rw [pairsS_eq, joinC] at hj
  have hz : s.size = (joinL 124 ((l.map pairS).map (·.data.toList))).length := by rw [← hj, bs_len]
  obtain ⟨g1, g2⟩ := joinL_ge 124 ((l.map pairS).map (·.data.toList))
  simp only [List.length_map] at g1
  refine ⟨by omega, fun t ht => ?_⟩
  have := g2 (pairS t).data.toList (by simp only [List.mem_map]; exact ⟨_, ⟨t, ht, rfl⟩, rfl⟩)
  have h3 := pairS_le t
  have e : (pairS t).data.toList.length = (pairS t).size := by simp
  omega
end Go.Proofs.YtnkblimmlkidcaaDoor
