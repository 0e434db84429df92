/- The calls of a script at the reference's journal: the law's done. -/
import Derived.Test.YtkhdhelhkokdcaaDoorJrnDo
import Derived.Test.YtkhdhelhkokdcaaDoorJrnRCrash
namespace Go.Proofs.YtkhdhelhkokdcaaDoor
open Go.RowKit

/-- What done says. -/
def DoneS (w0 w : World) (g : Nat) (v : Value) (c n : Int) (s : ByteArray) (l : List ByteArray) (d : Nat) (e : Ending) (w' : World) : Prop :=
  ∃ g' v' l' d' r, e = .returned (.tuple #[.pointer (some ⟨g', 0, none⟩), .int .i64 r]) ∧ RSt w' w0.heap.size g' v' l' d' ∧ OpR c n s l d l' d' r ∧ Moved w w' g v g' v'
set_option maxHeartbeats 4000000 in
set_option maxRecDepth 100000 in
theorem done_any (c n : Int) (s : ByteArray) (w0 w : World) (g d : Nat) (v : Value) (l : List ByteArray) (hw0 : w0.heap.size ≤ w.heap.size) (h : RSt w w0.heap.size g v l d) (hl : l.length ≤ 199) (hel : (encL l).length ≤ 20000) (hs : s.size ≤ 4096) :
    Calls Tryd.prog 25 #[.pointer (some ⟨g, 0, none⟩), .agg #[.int .i64 c, .int .i64 n, .string s]] w fun e w' => DoneS w0 w g v c n s l d e w' := by
  have HB : Hid (Below w.heap.size w (w.alloc (.cells #[.int .i64 c, .int .i64 n, .string s] 41))) := Lib.hid ((Below.refl _ _).alloc (Nat.le_refl _) _)
  have J0 := Lib.hid (h.below HB.out)
  have HZ : Hid (∀ x ∈ l, x.size ≤ 4096) := Lib.hid h.2.2
  have HDL : d ≤ l.length := h.2.1
  have HW0 : w0.heap.size ≤ (w.alloc (.cells #[.int .i64 c, .int .i64 n, .string s] 41)).heap.size := by simp; omega
  have HET := Lib.hid (enc_take (l := l) d)
  clear h
  by_cases h0 : c = 0
  · have t0 : (c == 0) = true := by rw [beq_iff_eq]; exact h0
    have H0 := Lib.hid h0
    clear h0
    go_enter Tryd.func25, Tryd.ntmps25
    go_wp2_with fail
    refine (rappend_ok s _ _ _ _ _ _ J0.out HW0 (by omega) hs).mono ?_
    rintro e w1 ⟨rfl, v1, hj1, ho1, hf1⟩
    have HF : Hid (DoneS w0 w g v c n s l d (.returned (.tuple #[.pointer (some ⟨g, 0, none⟩), .int .i64 0])) w1) := Lib.hid ⟨g, v1, _, _, _, rfl, hj1, .inl ⟨H0.out, rfl, rfl, rfl⟩, (ho1.weaken _).from HB.out, .inl rfl, .inr (fun i hi => Nat.le_trans HB.out.size (hf1 i hi))⟩
    clear hj1 ho1 hf1
    go_wp2_with fail
    go_ret2
    exact HF.out
  · have t0 : (c == 0) = false := by rw [beq_eq_false_iff_ne]; exact h0
    by_cases h1 : c = 1
    · have t1 : (c == 1) = true := by rw [beq_iff_eq]; exact h1
      have H1 := Lib.hid h1
      clear h0 h1
      go_enter Tryd.func25, Tryd.ntmps25
      go_wp2_with fail
      refine (rsync_any _ _ _ _ _ _ J0.out).mono ?_
      rintro e w1 ⟨rfl, hj1, ho1⟩
      have HF : Hid (DoneS w0 w g v c n s l d (.returned (.tuple #[.pointer (some ⟨g, 0, none⟩), .int .i64 l.length])) w1) := Lib.hid ⟨g, v, _, _, _, rfl, hj1, .inr (.inl ⟨H1.out, rfl, rfl, rfl⟩), (ho1.weaken _).from HB.out, .inl rfl, .inl rfl⟩
      clear hj1 ho1
      go_wp2_with fail
      go_ret2
      exact HF.out
    · have t1 : (c == 1) = false := by rw [beq_eq_false_iff_ne]; exact h1
      by_cases h2 : c = 2
      · have t2 : (c == 2) = true := by rw [beq_iff_eq]; exact h2
        have H2 := Lib.hid h2
        clear h0 h1 h2
        go_enter Tryd.func25, Tryd.ntmps25
        go_wp2_with fail
        refine (rcrash_any n _ _ _ _ _ _ J0.out HW0 (by omega)).mono ?_
        rintro e w1 ⟨rfl, m, v1, hm, hj1, ho1, hf1⟩
        have HF : Hid (DoneS w0 w g v c n s l d (.returned (.tuple #[.pointer (some ⟨g, 0, none⟩), .int .i64 0])) w1) := Lib.hid ⟨g, v1, _, _, _, rfl, hj1, .inr (.inr (.inl ⟨H2.out, ⟨m, hm, rfl⟩, rfl, rfl⟩)), (ho1.weaken _).from HB.out, .inl rfl, .inr (fun i hi => Nat.le_trans HB.out.size (hf1 i hi))⟩
        clear hj1 ho1 hf1 hm
        go_wp2_with fail
        go_ret2
        exact HF.out
      · have t2 : (c == 2) = false := by rw [beq_eq_false_iff_ne]; exact h2
        have HN : Hid (c ≠ 0 ∧ c ≠ 1 ∧ c ≠ 2) := Lib.hid ⟨h0, h1, h2⟩
        clear h0 h1 h2
        go_enter Tryd.func25, Tryd.ntmps25
        go_wp2_with fail
        refine (rbytes2_any _ _ _ _ _ _ J0.out (by omega)).mono ?_
        rintro e w1 ⟨rfl, hb1⟩
        have B1 := Lib.hid (bthen HB.out hb1)
        have J1 := Lib.hid (J0.out.below hb1)
        clear hb1
        go_wp2_with fail
        refine (ropen_any (encB (l.take d)) _ (by have := HET.out; omega)).mono ?_
        rintro e w2 ⟨⟨l2, n2, hD2, g2, v2, rfl, hj2⟩, hb2⟩
        obtain ⟨rfl, rfl⟩ := back_whole (small_take d HZ.out) hD2
        have B2 := Lib.hid (bthen B1.out hb2)
        have HF : Hid (DoneS w0 w g v c n s l d (.returned (.tuple #[.pointer (some ⟨g2, 0, none⟩), .int .i64 0])) w2) := Lib.hid ⟨g2, v2, _, _, _, rfl, hj2.mono (Nat.le_trans hw0 B1.out.size), .inr (.inr (.inr ⟨HN.out.1, HN.out.2.1, HN.out.2.2, rfl, rfl, rfl⟩)), Only.of_below B2.out _ _, .inr (Nat.le_trans B1.out.size hj2.1.1), .inr (fun i hi => Nat.le_trans B1.out.size (hj2.1.2.2.1.block i hi).1)⟩
        clear hj2 hb2 hD2
        go_wp2_with fail
        go_ret2
        exact HF.out
end Go.Proofs.YtkhdhelhkokdcaaDoor
