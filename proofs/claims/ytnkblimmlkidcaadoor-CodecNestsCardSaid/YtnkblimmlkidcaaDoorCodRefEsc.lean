/- identityref02.Escape and .Unescape compute escS, unescS. -/
import Derived.Test.YtnkblimmlkidcaaDoorCodEscW
import Derived.Test.YtnkblimmlkidcaaDoorCodRef64
import Derived.Deep.AppendLies
import Derived.Deep.RegionLaw
namespace Go.Proofs.YtnkblimmlkidcaaDoor
open Go.RowKit

theorem plainB_mk {c : UInt8} {b : Bool} (h : b = true ↔ (33 ≤ c.toNat ∧ c.toNat ≤ 126 ∧ c.toNat ≠ 37 ∧ c.toNat ≠ 124 ∧ c.toNat ≠ 44 ∧ c.toNat ≠ 61 ∧ c.toNat ≠ 59 ∧ c.toNat ≠ 34)) : b = plainB c := by
  rw [Bool.eq_iff_iff, h, plainB, decide_eq_true_iff]
set_option maxHeartbeats 2000000 in
theorem rplainB_any (c : UInt8) (w : World) :
    Calls Tryd.prog 40 #[.int .u8 (c.toNat : Int)] w fun e w' => e = .returned (.bool (plainB c)) ∧ w = w' := by
  have hcs : c.toNat = 37 ∨ c.toNat = 124 ∨ c.toNat = 44 ∨ c.toNat = 61 ∨ c.toNat = 59 ∨ c.toNat = 34 ∨ c.toNat < 33 ∨ c.toNat = 33 ∨ (34 < c.toNat ∧ c.toNat < 37) ∨ (37 < c.toNat ∧ c.toNat < 44) ∨ (44 < c.toNat ∧ c.toNat < 59) ∨ c.toNat = 60 ∨ (61 < c.toNat ∧ c.toNat < 124) ∨ c.toNat = 125 ∨ c.toNat = 126 ∨ 126 < c.toNat := by omega
  go_enter Tryd.func40, Tryd.ntmps40
  generalize hn : c.toNat = n at *
  have HN := Lib.hid hn
  clear hn
  rcases hcs with rfl | rfl | rfl | rfl | rfl | rfl | h | rfl | ⟨h1, h2⟩ | ⟨h1, h2⟩ | ⟨h1, h2⟩ | rfl | ⟨h1, h2⟩ | rfl | rfl | h
  all_goals
    go_wp2
    go_ret
    exact ⟨ret_bool (plainB_mk (by rw [HN.out]; simp; try omega)), rfl⟩

theorem hexTab_lt (k : Nat) (h : k < 16) (h' : k < hexTab.size) (c : UInt8) : hexTab[k] = c ↔ hexV c = some k := by
  rw [hexTab_el k h h']
  constructor
  · rintro rfl; exact hexV_dig k h
  · intro e; exact (hexU_val e).1
def digZ (c : UInt8) : Int := match hexV c with | none => -1 | some v => (v : Int)
theorem digZ_some {c : UInt8} {v : Nat} (h : hexV c = some v) : digZ c = (v : Int) := by simp [digZ, h]
theorem digZ_none {c : UInt8} (h : hexV c = none) : digZ c = -1 := by simp [digZ, h]
theorem dig_end {c : UInt8} (h : ∀ j, j < 16 → hexV c ≠ some j) : hexV c = none := by
  cases hv : hexV c with
  | none => rfl
  | some v => exact absurd hv (h v (hexV_lt hv))
set_option maxHeartbeats 1000000 in
theorem digit_any (c : UInt8) (w : World) :
    Calls Tryd.prog 41 #[.int .u8 (c.toNat : Int)] w fun e w' => e = .returned (.int .i64 (digZ c)) ∧ w = w' := by
  go_enter Tryd.func41, Tryd.ntmps41
  go_wp2_with fail
  go_loop [3] (fun i => ∃ k : Nat, k ≤ 16 ∧ i = .int .i64 k ∧ Hid (∀ j, j < k → hexV c ≠ some j)) (fun i => 16 - (intOf i).toNat)
  case atStart => exact ⟨0, Nat.zero_le _, rfl, Lib.hid (fun j h => by omega)⟩
  case round =>
    obtain ⟨k, hk, rfl, HA⟩ := hrel
    by_cases hlt : k < 16
    · have eA := hex_lit k hlt
      by_cases he : hexV c = some k
      · have HV := Lib.hid (digZ_some he)
        have hx : (hexU k) = c := (hexU_val he).1
        clear he
        go_wp2_with fail
        go_ret
        exact ⟨ret_int HV.out.symm, rfl⟩
      · have hx : ((((hexU k).toNat : Int) == (c.toNat : Int))) = false := by
          rw [beq_eq_false_iff_ne]
          intro e
          have : hexU k = c := UInt8.toNat_inj.1 (by omega)
          exact he (this ▸ hexV_dig k hlt)
        have HE := Lib.hid he
        clear he
        go_wp2_with fail
        go_round
        case rel => exact ⟨k + 1, by omega, by go_num, Lib.hid (fun j hj => by rcases Nat.lt_succ_iff_lt_or_eq.1 hj with h | rfl; exact HA.out j h; exact HE.out)⟩
        case measure => simp [intOf]; omega
    · have hV := Lib.hid (digZ_none (dig_end (fun j hj => HA.out j (by omega))))
      go_wp2_with fail
      go_ret
      exact ⟨ret_int hV.out.symm, rfl⟩

theorem cell_three_new (w : World) (x y z : Value) (t : TypeId) : ∀ j u, [x, y, z][j]? = some u → (w.alloc (.cells #[x, y, z] t)).cell? ((⟨w.heap.size, 0, none⟩ : Addr).add j) = some u := by
  intro j u hj
  match j, hj with
  | 0, hj => simp at hj; subst hj; simp [Addr.add]
  | 1, hj => simp at hj; subst hj; simp [Addr.add]
  | 2, hj => simp at hj; subst hj; simp [Addr.add]
theorem own_three {w : World} {base n : Nat} {v : Value} {l : List UInt8} {a b c : UInt8} (h : w.ownsRow base 5 1 v n (Lib.byteCells l ++ [Value.int .u8 (a.toNat : Int), Value.int .u8 (b.toNat : Int), Value.int .u8 (c.toNat : Int)])) :
    w.ownsRow base 5 1 v n (Lib.byteCells (l ++ [a] ++ [b] ++ [c])) := by
  have e : Lib.byteCells l ++ [Value.int .u8 (a.toNat : Int), Value.int .u8 (b.toNat : Int), Value.int .u8 (c.toNat : Int)] = Lib.byteCells (l ++ [a] ++ [b] ++ [c]) := by simp [Lib.byteCells]
  rw [← e]; exact h

set_option maxHeartbeats 2000000 in
set_option maxRecDepth 100000 in
theorem resc_any (s : ByteArray) (w : World) (hs : s.size ≤ 1000000000) :
    Calls Tryd.prog 15 #[.string s] w fun e w' => e = .returned (.string (escS s)) ∧ Below w.heap.size w w' := by
  obtain ⟨i0, hi, hz0, hz1, hz2⟩ := info_parts info_byte
  go_enter Tryd.func15, Tryd.ntmps15
  go_wp2_with fail
  go_loopw [3, 4] (fun v i wr => ∃ (k : Nat) (pre : List UInt8), k ≤ s.size ∧ i = .int .i64 k ∧ wr.ownsRow w.heap.size 5 1 v pre.length (Lib.byteCells pre) ∧ Hid (pre ++ escL (s.data.toList.drop k) = escL s.data.toList) ∧ pre.length ≤ 3 * k ∧ Below w.heap.size w wr) (fun _ i _ => s.size - (intOf i).toNat)
  case atStart => exact ⟨0, [], Nat.zero_le _, rfl, World.ownsRow_nil _ _ _ _, Lib.hid rfl, Nat.zero_le _, Below.refl _ _⟩
  case round =>
    obtain ⟨k, pre, hk, rfl, hown, HP, hpl, hbr⟩ := hrel
    by_cases hlt : k < s.size
    · cases hp : plainB s[k] with
      | true =>
        have HQ := Lib.hid hp
        go_wp2_with fail
        refine (rplainB_any s[k] wr).mono ?_
        rintro e w1 ⟨rfl, rfl⟩
        rw [hp]
        clear hp
        go_wp2_with (at_builtin; refine wpList_append_own _ rfl _ _ 50 rfl w.heap.size 5 i0 (.int .u8 0) 1 1 Tryd.underlying50 hi hz0 hz1 hz2 rfl (by decide) _ _ _ rfl (hown.alloc _) ⟨wr.heap.size, 0, none⟩ 1 1 [.int .u8 (s[k].toNat : Int)] rfl rfl (cell_one_new _ _ _) (by intro u hu; simp at hu; subst hu; rfl) (by unfold maxLen; simp; omega) (by simp; omega) (by have := hbr.size; simp; omega) ?_; intro v0 w0 ho0 hg0 _)
        have hb0 : Below w.heap.size w w0 := (hbr.alloc (hbr.size) _).grown hg0 (by have := hbr.size; simp; omega) (fun q hq => (hown.lt q hq).1)
        have hw0 := own_snoc ho0
        clear ho0 hg0
        go_wp2_with fail
        go_roundw
        case rel => exact ⟨k + 1, pre ++ [s[k]], by omega, by go_num, by simpa using hw0, Lib.hid (esc_step1 hlt HQ.out HP.out), by simp; omega, hb0⟩
        case measure => simp [intOf]; omega
      | false =>
        have HQ := Lib.hid hp
        obtain ⟨c, hc⟩ : ∃ c, s[k].toNat = c := ⟨_, rfl⟩
        have HC := Lib.hid hc
        have hcl : c < 256 := hc ▸ s[k].toNat_lt
        have hcp := rplainB_any s[k] wr
        rw [hc, hp] at hcp
        clear hp
        obtain ⟨a, HA⟩ : ∃ a, Hid (c / 16 = a) := ⟨_, Lib.hid rfl⟩
        have hal : a < 16 := by have := HA.out; omega
        have ea : (c : Int).tdiv 16 = (a : Int) := by have := HA.out; rw [Int.tdiv_eq_ediv_of_nonneg (by omega)]; omega
        obtain ⟨b, HB⟩ : ∃ b, Hid (c % 16 = b) := ⟨_, Lib.hid rfl⟩
        have hbl : b < 16 := by have := HB.out; omega
        have eb : (c : Int).tmod 16 = (b : Int) := by have := HB.out; rw [Int.tmod_eq_emod_of_nonneg (by omega)]; omega
        have wa : IntKind.u8.wrap (a : Int) = (a : Int) := by rw [IntKind.wrap_u8]; omega
        have wb : IntKind.u8.wrap (b : Int) = (b : Int) := by rw [IntKind.wrap_u8]; omega
        have eA := hex_lit a hal
        have eB := hex_lit b hbl
        have hi1 : (0 : Int) ≤ (k : Int) := by omega
        have hi2 : (k : Int) < (s.size : Int) := by omega
        have ha1 : (0 : Int) ≤ (a : Int) := by omega
        have ha2 : (a : Int) < 16 := by omega
        have hb1 : (0 : Int) ≤ (b : Int) := by omega
        have hb2 : (b : Int) < 16 := by omega
        go_wp2_with fail
        refine hcp.mono ?_
        rintro e w1 ⟨rfl, rfl⟩
        go_wp2_with fail
        have hown0 := hown.drew
        have hbr' := hbr.drew
        clear hcp
        go_region_law (refine step_append_lies _ (by rfl) _ _ _ (by rfl) w.heap.size 5 i0 _ 1 1 Tryd.underlying50 hi hz0 hz1 hz2 rfl (by omega) _ pre.length (Lib.byteCells pre) (by rfl) (hown0.alloc _) ⟨wr.heap.size, 0, none⟩ 3 3 [.int .u8 37, .int .u8 ((hexU a).toNat : Int), .int .u8 ((hexU b).toNat : Int)] (by rfl) (by rfl) ?_ ?_ (by omega) (by unfold maxLen; omega) (by omega) ?_ (wr.heap.size + 1) ?_ ?_; exact cell_three_new _ _ _ _ _; (intro u hu; simp at hu; rcases hu with rfl | rfl | rfl <;> rfl); (have := hbr.size; simp; omega); (simp); (intro gg cap w0 ho0 hg0 hat hlt3))
        all_goals
          have hb0 : Below w.heap.size w w0 := (hbr'.alloc (hbr'.size) _).grown hg0 (by have : w.heap.size ≤ wr.heap.size := hbr.size; simp; omega) (fun q hq => (hown0.lt q hq).1)
          have hw0 := own_three (a := 37) ho0
          clear ho0 hg0
          go_wp2_with fail
          have hP := esc_step3 hlt HQ.out HC.out HA.out HB.out HP.out
          go_roundw
          case rel => exact ⟨k + 1, _, by omega, by go_num, by simpa using hw0, Lib.hid hP, by simp; omega, hb0⟩
          case measure => simp [intOf]; omega
    · have HE := Lib.hid (esc_end hlt HP.out)
      have hcv := conv_own hown
      go_wp2_with fail
      go_ret
      exact ⟨ret_str HE.out, hbr⟩
end Go.Proofs.YtnkblimmlkidcaaDoor
