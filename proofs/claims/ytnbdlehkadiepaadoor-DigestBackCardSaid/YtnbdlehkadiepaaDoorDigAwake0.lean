/- What the calls of identitylaw03.awake say, each at its own constants. -/
import Derived.Test.YtnbdlehkadiepaaDoorDigProves2
import Derived.Test.YtnbdlehkadiepaaDoorDigMac
import Derived.Test.YtnbdlehkadiepaaDoorDigRead
namespace Go.Proofs.YtnbdlehkadiepaaDoor
open Go.RowKit

def sa : ByteArray := ⟨#[97]⟩
def sb : ByteArray := ⟨#[98]⟩
def sc : ByteArray := ⟨#[99]⟩
theorem aw_hex : hexS 255 = ⟨#[48, 48, 48, 48, 48, 48, 48, 48, 48, 48, 48, 48, 48, 48, 102, 102]⟩ := by decide +kernel
theorem aw_readN : readHexN ⟨#[48, 48, 48, 48, 48, 48, 48, 48, 48, 48, 48, 48, 48, 48, 102, 102]⟩ = 255 := by decide +kernel
theorem aw_readE : readHexE ⟨#[48, 48, 48, 48, 48, 48, 48, 48, 48, 48, 48, 48, 48, 48, 102, 102]⟩ = 0 := by decide +kernel
theorem aw_readE2 : readHexE ⟨#[48, 48, 48, 48, 48, 48, 48, 48, 48, 48, 48, 48, 48, 48, 70, 70]⟩ = 4 := by decide +kernel
theorem aw_sum : (sumS ⟨#[97]⟩ == sumS ⟨#[98]⟩) = false := by decide +kernel
def L3 : List ByteArray := [sa, sb, sc]
theorem L3_sizes : ∀ s ∈ L3, s.size ≤ 1000000 := by
  intro s hs
  simp [L3] at hs
  rcases hs with rfl | rfl | rfl <;> decide
/-- What the calls of Path say, spelled out. -/
theorem aw_path2 (b : Nat) (w : World) (hd : DigOk w) (hS : Strs w (some ⟨b, 0, none⟩) L3) :
    Calls Tryd.prog 27 #[.slice (some ⟨b, 0, none⟩) 3 3, .int .i64 2] w fun e w' => ∃ g o cap, e = .returned (.tuple #[.slice (some ⟨g, o, none⟩) 1 cap, .int .i64 0]) ∧ w'.cell? ⟨g, o, none⟩ = some (.string (nodeS (leafS sa) (leafS sb))) ∧ Below w.heap.size w w' := by
  refine (path_any L3 (some ⟨b, 0, none⟩) 3 2 w hd hS (by decide) L3_sizes).mono ?_
  rintro e w' ⟨⟨A, cap, rfl, h1, _⟩, hb⟩
  obtain ⟨g, o, rfl, hc⟩ := h1 0 (by decide)
  exact ⟨g, o, cap, rfl, hc, hb⟩
theorem aw_path0 (b : Nat) (w : World) (hd : DigOk w) (hS : Strs w (some ⟨b, 0, none⟩) L3) :
    Calls Tryd.prog 27 #[.slice (some ⟨b, 0, none⟩) 3 3, .int .i64 0] w fun e w' => ∃ g o cap, e = .returned (.tuple #[.slice (some ⟨g, o, none⟩) 2 cap, .int .i64 0]) ∧ w'.cell? ⟨g, o, none⟩ = some (.string (leafS sb)) ∧ w'.cell? ⟨g, o + 1, none⟩ = some (.string (leafS sc)) ∧ Below w.heap.size w w' := by
  refine (path_any L3 (some ⟨b, 0, none⟩) 3 0 w hd hS (by decide) L3_sizes).mono ?_
  rintro e w' ⟨⟨A, cap, rfl, h1, _⟩, hb⟩
  obtain ⟨g, o, rfl, hc⟩ := h1 0 (by decide)
  obtain ⟨g', o', e', hc'⟩ := h1 1 (by decide)
  injection e' with e'; injection e' with e1 e2; subst e1; subst e2
  exact ⟨g, o, cap, rfl, hc, hc', hb⟩
theorem aw_path3 (b : Nat) (w : World) (hd : DigOk w) (hS : Strs w (some ⟨b, 0, none⟩) L3) :
    Calls Tryd.prog 27 #[.slice (some ⟨b, 0, none⟩) 3 3, .int .i64 3] w fun e w' => ∃ A cap, e = .returned (.tuple #[.slice A 0 cap, .int .i64 27]) ∧ Below w.heap.size w w' := by
  refine (path_any L3 (some ⟨b, 0, none⟩) 3 3 w hd hS (by decide) L3_sizes).mono ?_
  rintro e w' ⟨⟨A, cap, rfl, h1, _⟩, hb⟩
  exact ⟨A, cap, rfl, hb⟩
theorem aw_root2 (b : Nat) (w : World) (hd : DigOk w) (hS : Strs w (some ⟨b, 0, none⟩) [sa, sb]) :
    Calls Tryd.prog 29 #[.slice (some ⟨b, 0, none⟩) 2 3] w fun e w' => e = .returned (.string (nodeS (leafS sa) (leafS sb))) ∧ Below w.heap.size w w' :=
  root_any [sa, sb] (some ⟨b, 0, none⟩) 3 w hd hS (by decide) (fun s hs => L3_sizes s (by simp [L3] at hs ⊢; rcases hs with h | h <;> simp [h]))
theorem aw_root1 (b : Nat) (w : World) (hd : DigOk w) (hS : Strs w (some ⟨b, 0, none⟩) [sa]) :
    Calls Tryd.prog 29 #[.slice (some ⟨b, 0, none⟩) 1 3] w fun e w' => e = .returned (.string (leafS sa)) ∧ Below w.heap.size w w' :=
  root_any [sa] (some ⟨b, 0, none⟩) 3 w hd hS (by decide) (fun s hs => L3_sizes s (by simp [L3] at hs ⊢; simp [hs]))
theorem leaf_a : leafS sa = textS ⟨#[48, 97]⟩ := by unfold leafS; exact congrArg textS (by decide)
theorem leaf_b : leafS sb = textS ⟨#[48, 98]⟩ := by unfold leafS; exact congrArg textS (by decide)
theorem leaf_c : leafS sc = textS ⟨#[48, 99]⟩ := by unfold leafS; exact congrArg textS (by decide)
theorem Strs.drew {w : World} {A : Option Addr} {l : List ByteArray} (h : Strs w A l) : Strs w.drew A l := h
theorem strs_take {w : World} {A : Option Addr} {l : List ByteArray} (h : Strs w A l) (k : Nat) : Strs w A (l.take k) := by
  intro i hi
  obtain ⟨b, o, e, hc⟩ := h i (by simp at hi; omega)
  exact ⟨b, o, e, by simpa using hc⟩
theorem strs_L3 (w : World) (t : TypeId) : Strs (w.alloc (.cells #[.string ⟨#[97]⟩, .string ⟨#[98]⟩, .string ⟨#[99]⟩] t)) (some ⟨w.heap.size, 0, none⟩) L3 := by
  intro i hi
  refine ⟨w.heap.size, 0, rfl, ?_⟩
  have : i < 3 := hi
  rcases i with _ | _ | _ | i <;> first | omega | (simp [go_sem]; rfl)

theorem aw_root2b (b : Nat) (w : World) (hd : DigOk w) (hS : Strs w (some ⟨b, 0, none⟩) L3) :
    Calls Tryd.prog 29 #[.slice (some ⟨b, 0, none⟩) 2 3] w fun e w' => e = .returned (.string (textS (⟨#[49]⟩ ++ textS ⟨#[48, 97]⟩ ++ textS ⟨#[48, 98]⟩))) ∧ Below w.heap.size w w' := by
  have h := aw_root2 b w hd (strs_take hS 2)
  rw [leaf_a, leaf_b] at h
  exact h
theorem aw_root1b (b : Nat) (w : World) (hd : DigOk w) (hS : Strs w (some ⟨b, 0, none⟩) L3) :
    Calls Tryd.prog 29 #[.slice (some ⟨b, 0, none⟩) 1 3] w fun e w' => e = .returned (.string (textS ⟨#[48, 97]⟩)) ∧ Below w.heap.size w w' := by
  have h := aw_root1 b w hd (strs_take hS 1)
  rw [leaf_a] at h
  exact h
theorem aw_mac (w : World) (hd : DigOk w) (hp : PowOk w) :
    Calls Tryd.prog 20 #[.string ⟨#[107]⟩, .string ⟨#[109]⟩] w fun e w' => e = .returned (.string (textS (⟨#[49, 58, 107]⟩ ++ textS ⟨#[49, 58, 107, 109]⟩))) ∧ Below w.heap.size w w' := by
  have h := mac_any ⟨#[107]⟩ ⟨#[109]⟩ w hd hp (by decide) (by decide)
  have e1 : macP ⟨#[107]⟩ = ⟨#[49, 58, 107]⟩ := by decide +kernel
  have e2 : (⟨#[49, 58, 107]⟩ : ByteArray) ++ ⟨#[109]⟩ = ⟨#[49, 58, 107, 109]⟩ := by decide
  rw [macS, e1, e2] at h
  exact h
theorem aw_iter (w : World) (hd : DigOk w) :
    Calls Tryd.prog 22 #[.string ⟨#[115]⟩, .string ⟨#[112]⟩, .int .i64 1] w fun e w' => e = .returned (.string (textS (textS ⟨#[115, 124, 112]⟩ ++ ⟨#[124, 115]⟩))) ∧ Below w.heap.size w w' := by
  have h := iterate_any ⟨#[115]⟩ ⟨#[112]⟩ 1 w hd (by decide) (by decide)
  have e1 : (⟨#[115]⟩ : ByteArray) ++ barS ++ ⟨#[112]⟩ = ⟨#[115, 124, 112]⟩ := by decide
  have e2 : iterateS ⟨#[115]⟩ ⟨#[112]⟩ 1 = textS (textS ⟨#[115, 124, 112]⟩ ++ ⟨#[124, 115]⟩) := by
    unfold iterateS
    rw [e1, show ((min (max (1 : Int) 0) 64).toNat) = 1 from by decide]
    simp only [iterN]
    rw [ByteArray.append_assoc]
    exact congrArg (fun x => textS (textS ⟨#[115, 124, 112]⟩ ++ x)) (by decide)
  rw [e2] at h
  exact h
theorem aw_chain (w : World) (hd : DigOk w) :
    Calls Tryd.prog 24 #[.string ⟨#[97]⟩, .string ⟨#[98]⟩] w fun e w' => e = .returned (.string (textS ⟨#[97, 124, 98]⟩)) ∧ Below w.heap.size w w' := by
  have h := chain_any ⟨#[97]⟩ ⟨#[98]⟩ w hd (by decide) (by decide)
  have e1 : (⟨#[97]⟩ : ByteArray) ++ barS ++ ⟨#[98]⟩ = ⟨#[97, 124, 98]⟩ := by decide
  rw [chainS, e1] at h
  exact h
theorem aw_proves1 (w : World) (hd : DigOk w) :
    Calls Tryd.prog 32 #[.string (textS ⟨#[48, 97]⟩), .string ⟨#[97]⟩, .int .i64 0, .int .i64 1, .slice none 0 0] w fun e w' => e = .returned (.bool true) ∧ Below w.heap.size w w' := by
  have h := proves_any (textS ⟨#[48, 97]⟩) sa 0 1 [] none 0 w hd (Strs.nil_ _ _) (by decide) (by decide) (by simp) (by decide) (by decide)
  have e1 : provesS (textS ⟨#[48, 97]⟩) sa 0 1 [] = true := by
    rw [← leaf_a]
    simp [provesS, provesIn, walkF]
  rw [e1] at h
  exact h
theorem aw_proves2 (w : World) (hd : DigOk w) :
    Calls Tryd.prog 32 #[.string (textS ⟨#[48, 97]⟩), .string ⟨#[97]⟩, .int .i64 0, .int .i64 2, .slice none 0 0] w fun e w' => e = .returned (.bool false) ∧ Below w.heap.size w w' := by
  have h := proves_any (textS ⟨#[48, 97]⟩) sa 0 2 [] none 0 w hd (Strs.nil_ _ _) (by decide) (by decide) (by simp) (by decide) (by decide)
  have e1 : provesS (textS ⟨#[48, 97]⟩) sa 0 2 [] = false := by
    simp [provesS, provesIn, walkF]
  rw [e1] at h
  exact h

end Go.Proofs.YtnbdlehkadiepaaDoor
