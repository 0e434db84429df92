/- The scripts of the laws: a list of calls in memory, and the law's light. -/
import Derived.Test.YtkhdhelhkokdcaaDoorKit
import Derived.BigQuiet
import Derived.Deep.QuietTactic
namespace Go.Proofs.YtkhdhelhkokdcaaDoor
open Go.RowKit

/-- A slice's address reads as a list of calls. -/
def OpsAt (w : World) (A : Option Addr) (l : List (Int × Int × ByteArray)) : Prop :=
  ∀ i, (h : i < l.length) → ∃ b o, A = some ⟨b, o, none⟩ ∧ w.cell? ⟨b, o + i * 3, none⟩ = some (.int .i64 l[i].1) ∧ w.cell? ⟨b, o + i * 3 + 1, none⟩ = some (.int .i64 l[i].2.1) ∧ w.cell? ⟨b, o + i * 3 + 2, none⟩ = some (.string l[i].2.2)
theorem OpsAt.below {w w' : World} {A : Option Addr} {l : List (Int × Int × ByteArray)} (h : OpsAt w A l) (hb : Below w.heap.size w w') : OpsAt w' A l := by
  intro i hi
  obtain ⟨b, o, e, h1, h2, h3⟩ := h i hi
  exact ⟨b, o, e, (hb.cell (World.block_lt_of_cell? w _ h1)).trans h1, (hb.cell (World.block_lt_of_cell? w _ h2)).trans h2, (hb.cell (World.block_lt_of_cell? w _ h3)).trans h3⟩
/-- At most 20 calls with strings of at most 300 bytes. -/
def lightS (l : List (Int × Int × ByteArray)) : Bool := decide (l.length ≤ 20 ∧ ∀ x ∈ l, x.2.2.size ≤ 300)
theorem lightS_no {l : List (Int × Int × ByteArray)} (i : Nat) (h : i < l.length) (hs : 300 < l[i].2.2.size) : lightS l = false := by
  rw [lightS, decide_eq_false_iff_not]
  rintro ⟨_, h2⟩
  have := h2 _ (List.getElem_mem h)
  omega
theorem lightS_end {l : List (Int × Int × ByteArray)} {k : Nat} (hk : k = l.length ∨ k = 20) (hz : ∀ x ∈ l.take k, x.2.2.size ≤ 300) : lightS l = decide (l.length ≤ 20) := by
  rw [lightS]
  by_cases h : l.length ≤ 20
  · have e : l.take k = l := List.take_of_length_le (by omega)
    rw [e] at hz
    simp [h]
    exact fun a b c hx => hz _ hx
  · simp [h]
set_option maxHeartbeats 2000000 in
theorem light_any (l : List (Int × Int × ByteArray)) (A : Option Addr) (c : Nat) (w : World) (hS : OpsAt w A l) (hl : l.length ≤ 9223372036854775807) :
    Calls Tryd.prog 15 #[.slice A l.length c] w fun e w' => e = .returned (.bool (lightS l)) ∧ w = w' := by
  have HS := Lib.hid hS
  clear hS
  go_enter Tryd.func15, Tryd.ntmps15
  go_wp2_with fail
  go_loop [3] (fun i => ∃ k : Nat, k ≤ l.length ∧ k ≤ 20 ∧ i = .int .i64 k ∧ Hid (∀ x ∈ l.take k, x.2.2.size ≤ 300)) (fun i => l.length - (intOf i).toNat)
  case atStart => exact ⟨0, Nat.zero_le _, by omega, rfl, Lib.hid (fun p hp => by simp at hp)⟩
  case round =>
    obtain ⟨k, hk, hk20, rfl, HZ⟩ := hrel
    by_cases hlt : k < l.length
    · by_cases h20 : 20 ≤ k
      · have HE : Hid (lightS l = decide (l.length ≤ 20)) := Lib.hid (lightS_end (.inr (by omega)) HZ.out)
        have HQ : Hid (decide ((l.length : Int) ≤ 20) = lightS l) := Lib.hid (by rw [HE.out]; exact decide_eq_decide.2 (by omega))
        go_wp2_with fail
        go_ret
        exact ⟨ret_bool HQ.out, rfl⟩
      · obtain ⟨b, o, rfl, _, _, h3⟩ := HS.out k hlt
        have HT : Hid (l.take (k + 1) = l.take k ++ [l[k]]) := by show _ = _; rw [List.take_succ_eq_append_getElem hlt]
        have HN : Hid (300 < l[k].2.2.size → lightS l = false) := Lib.hid (fun h => lightS_no k hlt h)
        generalize l[k] = p at *
        obtain ⟨x, y, s⟩ := p
        have h3' : w.cell? ⟨b, o + k * 3 + 2, none⟩ = some (.string s) := h3
        clear h3
        by_cases hs : 300 < s.size
        · have HF := Lib.hid (HN.out hs)
          go_wp2_with fail
          go_ret
          exact ⟨ret_bool HF.out.symm, rfl⟩
        · have HZ2 : Hid (∀ x ∈ l.take (k + 1), x.2.2.size ≤ 300) := Lib.hid (by
            rw [HT.out]
            intro x hx
            rw [List.mem_append, List.mem_singleton] at hx
            rcases hx with hx | rfl
            · exact HZ.out x hx
            · show s.size ≤ 300; omega)
          go_wp2_with fail
          go_round
          case rel => exact ⟨k + 1, hlt, by omega, by go_num, HZ2⟩
          case measure => simp [intOf]; omega
    · have HE : Hid (lightS l = decide (l.length ≤ 20)) := Lib.hid (lightS_end (.inl (by omega)) HZ.out)
      have HQ : Hid (decide ((l.length : Int) ≤ 20) = lightS l) := Lib.hid (by rw [HE.out]; exact decide_eq_decide.2 (by omega))
      go_wp2_with fail
      go_ret
      exact ⟨ret_bool HQ.out, rfl⟩
end Go.Proofs.YtkhdhelhkokdcaaDoor
