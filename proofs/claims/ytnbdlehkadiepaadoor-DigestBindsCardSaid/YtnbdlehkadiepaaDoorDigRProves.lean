/- identityref03.Proves computes provesS. -/
import Derived.Test.YtnbdlehkadiepaaDoorDigStrings
namespace Go.Proofs.YtnbdlehkadiepaaDoor
open Go.RowKit

theorem tailF_sizes (f : Nat) : ∀ (h : ByteArray) (i n : Nat) (p : List ByteArray) (x : List ByteArray × List ByteArray), h.size ≤ 16 → (∀ s ∈ p, s.size ≤ 1000000) → tailF f h i n p = some x → (∀ s ∈ x.1, s.size ≤ 1000017) ∧ x.1.length ≤ p.length := by
  induction f with
  | zero => intro h i n p x _ _ hx; cases hx; simp
  | succ f ih =>
    intro h i n p x hh hp hx
    have h1 : oneS.size = 1 := rfl
    by_cases hn : n ≤ 1
    · rw [tailF_end _ _ _ _ _ hn] at hx; cases hx; simp
    · by_cases hs : i % 2 = 1 ∨ i + 1 < n
      · cases p with
        | nil => rw [tailF, if_neg hn, if_pos hs] at hx; cases hx
        | cons a r =>
          rw [tailF, if_neg hn, if_pos hs] at hx
          simp only [Option.map_eq_some_iff] at hx
          obtain ⟨y, hy, rfl⟩ := hx
          have hsz := Nat.le_of_eq (textS_size (if i % 2 = 1 then oneS ++ a ++ h else oneS ++ h ++ a))
          obtain ⟨g1, g2⟩ := ih _ _ _ _ y hsz (fun s hs => hp s (by simp [hs])) hy
          have ha := hp a (by simp)
          refine ⟨fun s hs => ?_, by simp; omega⟩
          rcases List.mem_cons.1 hs with rfl | hs
          · split <;> (simp only [ByteArray.size_append]; omega)
          · exact g1 s hs
      · rw [tailF.eq_def] at hx
        simp only [if_neg hn, if_neg hs] at hx
        exact ih _ _ _ _ x hh hp hx
theorem stringsO_sizes {s : ByteArray} {i n : Int} {p : List ByteArray} {x : List ByteArray × List ByteArray} (hs : s.size ≤ 1000000) (hp : ∀ s ∈ p, s.size ≤ 1000000) (hx : stringsO s i n p = some x) :
    (∀ s ∈ x.1, s.size ≤ 1000017) ∧ x.1.length ≤ p.length + 1 ∧ 1 ≤ x.1.length := by
  unfold stringsO at hx
  split at hx
  · simp only [Option.map_eq_some_iff] at hx
    obtain ⟨y, hy, rfl⟩ := hx
    obtain ⟨g1, g2⟩ := tailF_sizes _ _ _ _ _ y (Nat.le_of_eq (textS_size _)) hp hy
    refine ⟨fun t ht => ?_, by simp; omega, by simp⟩
    rcases List.mem_cons.1 ht with rfl | ht
    · have h1 : zeroS.size = 1 := rfl
      simp only [ByteArray.size_append]; omega
    · exact g1 t ht
  · cases hx

theorem Strs.at_ {w : World} {A : Option Addr} {l : List ByteArray} {k : Nat} {y : ByteArray} (h : Strs w A l) (hk : l[k]? = some y) : ∃ b o, A = some ⟨b, o, none⟩ ∧ w.cell? ⟨b, o + k, none⟩ = some (.string y) := by
  obtain ⟨hlt, e⟩ := List.getElem?_eq_some_iff.1 hk
  subst e
  exact h k hlt
set_option maxHeartbeats 1600000 in
theorem rproves_any (root s : ByteArray) (i n : Int) (p : List ByteArray) (A : Option Addr) (c : Nat) (w : World) (hS : Strs w A p) (hl : p.length ≤ 1000000) (hz : ∀ s ∈ p, s.size ≤ 1000000) (hs : s.size ≤ 1000000) (hn : n ≤ 9223372036854775807) :
    Calls Tryd.prog 33 #[.string root, .string s, .int .i64 i, .int .i64 n, .slice A p.length c] w fun e w' => e = .returned (.bool (provesS root s i n p)) ∧ Below w.heap.size w w' := by
  have HSt := Lib.hid (strings_any s i n p A c w hS hl hz hs hn)
  have HP := Lib.hid (proves_strings root s i n p)
  cases ho : stringsO s i n p with
  | none =>
    have HE : Hid (provesS root s i n p = false) := by show _ = _; rw [HP.out, ho]
    have HB : Hid (stringsB s i n p = false) := by show _ = _; rw [stringsB, ho]
    clear ho hz
    go_enter Tryd.func33, Tryd.ntmps33
    go_wp2_with fail
    refine HSt.out.mono ?_
    rintro e w1 ⟨⟨A1, c1, rfl, hS1⟩, hb1⟩
    rw [HB.out]
    go_wp2_with fail
    go_ret
    exact ⟨ret_bool HE.out.symm, hb1⟩
  | some x =>
    obtain ⟨z1, z2, z3⟩ := stringsO_sizes hs hz ho
    have HL : Hid (stringsL s i n p = x.1) := by show _ = _; rw [stringsL, ho]
    have HB : Hid (stringsB s i n p = decide (x.2 = [])) := by show _ = _; rw [stringsB, ho]
    have HE : Hid (provesS root s i n p = decide (x.2 = [] ∧ textS (x.1.getLast?.getD ByteArray.empty) = root)) := by show _ = _; rw [HP.out, ho]
    by_cases hx : x.2 = []
    · obtain ⟨k, hk⟩ : ∃ k, x.1.length = k + 1 := ⟨x.1.length - 1, by omega⟩
      obtain ⟨y, hyk⟩ : ∃ y, x.1[k]? = some y := ⟨_, List.getElem?_eq_getElem (by omega)⟩
      have hlast : x.1.getLast?.getD ByteArray.empty = y := by
        rw [List.getLast?_eq_getElem?, hk, Nat.add_sub_cancel, hyk, Option.getD_some]
      have hyz := z1 y (List.mem_of_getElem? hyk)
      have HT : Hid (y.size ≤ 9223372036854775807) := by show _ ≤ _; omega
      have HBT : Hid (stringsB s i n p = true) := by show _ = _; rw [HB.out, decide_eq_true hx]
      have HET : Hid (provesS root s i n p = decide (textS y = root)) := by show _ = _; rw [HE.out, hlast]; simp [hx]
      have hk6 : k ≤ 1000000 := by omega
      have HK := Lib.hid hk
      have HY := Lib.hid hyk
      clear hz z1 hx ho hlast z2 z3 hk hyk
      go_enter Tryd.func33, Tryd.ntmps33
      go_wp2_with fail
      refine HSt.out.mono ?_
      rintro e w1 ⟨⟨A1, c1, rfl, hS1⟩, hb1⟩
      rw [HBT.out, HL.out, HK.out]
      rw [HL.out] at hS1
      obtain ⟨b, o, rfl, hc⟩ := hS1.at_ HY.out
      clear hS1
      by_cases hy : textS y = root
      · subst hy
        go_wp2_with (go_at_call 17; refine (rtext_any _ _ HT.out).mono ?_; rintro e w2 ⟨rfl, rfl⟩)
        go_ret
        exact ⟨ret_bool (by rw [HET.out]; simp), hb1⟩
      · have hq := str_ne hy
        have HD : Hid (decide (textS y = root) = false) := by show _ = _; simpa using hy
        clear hy
        go_wp2_with (go_at_call 17; refine (rtext_any _ _ HT.out).mono ?_; rintro e w2 ⟨rfl, rfl⟩)
        go_ret
        exact ⟨ret_bool (by rw [HET.out, HD.out]), hb1⟩
    · have HBT : Hid (stringsB s i n p = false) := by show _ = _; rw [HB.out, decide_eq_false hx]
      have HET : Hid (provesS root s i n p = false) := by show _ = _; rw [HE.out]; simp [hx]
      clear hz z1 hx ho
      go_enter Tryd.func33, Tryd.ntmps33
      go_wp2_with fail
      refine HSt.out.mono ?_
      rintro e w1 ⟨⟨A1, c1, rfl, hS1⟩, hb1⟩
      rw [HBT.out]
      go_wp2_with fail
      go_ret
      exact ⟨ret_bool HET.out.symm, hb1⟩
end Go.Proofs.YtnbdlehkadiepaaDoor
