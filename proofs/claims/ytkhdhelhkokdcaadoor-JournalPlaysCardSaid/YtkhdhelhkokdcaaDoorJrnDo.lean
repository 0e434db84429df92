/- The calls of a script at the program's journal: the law's do. -/
import Derived.Test.YtkhdhelhkokdcaaDoorJrnAJ
import Derived.Test.YtkhdhelhkokdcaaDoorJrnBackP
namespace Go.Proofs.YtkhdhelhkokdcaaDoor
open Go.RowKit

/-- What a call of a script makes of the records; r is its answer. -/
def OpR (c n : Int) (s : ByteArray) (l : List ByteArray) (d : Nat) (l' : List ByteArray) (d' : Nat) (r : Int) : Prop :=
  (c = 0 ∧ l' = l ++ [s] ∧ d' = d ∧ r = 0) ∨ (c = 1 ∧ l' = l ∧ d' = l.length ∧ r = l.length) ∨
  (c = 2 ∧ (∃ m, Left l d n m ∧ l' = l.take d ++ m) ∧ d' = l'.length ∧ r = 0) ∨ (c ≠ 0 ∧ c ≠ 1 ∧ c ≠ 2 ∧ l' = l.take d ∧ d' = l'.length ∧ r = 0)
theorem left_one {l m m' : List ByteArray} {d : Nat} {keep : Int} (h : Left l d keep m) (h' : Left l d keep m') : m = m' := by
  obtain ⟨n, h1⟩ := h
  obtain ⟨n', h2⟩ := h'
  exact (h1.one h2).1
theorem left_pre {l m : List ByteArray} {d : Nat} {keep : Int} (hz : ∀ x ∈ l, x.size ≤ 4096) (h : Left l d keep m) : m <+: l.drop d := by
  obtain ⟨n, h⟩ := h
  exact (back_pre (fun r hr => hz r (List.mem_of_mem_drop hr)) (keep_le _ _) h).1
theorem OpR.one {c n : Int} {s : ByteArray} {l l1 l2 : List ByteArray} {d d1 d2 : Nat} {r1 r2 : Int} (h1 : OpR c n s l d l1 d1 r1) (h2 : OpR c n s l d l2 d2 r2) : l1 = l2 ∧ d1 = d2 ∧ r1 = r2 := by
  rcases h1 with ⟨a, b, c', e⟩ | ⟨a, b, c', e⟩ | ⟨a, ⟨m, hm, b⟩, c', e⟩ | ⟨a, a', a'', b, c', e⟩ <;> rcases h2 with ⟨x, y, z, u⟩ | ⟨x, y, z, u⟩ | ⟨x, ⟨m2, hm2, y⟩, z, u⟩ | ⟨x, x', x'', y, z, u⟩ <;> first | omega | skip
  · exact ⟨b.trans y.symm, c'.trans z.symm, e.trans u.symm⟩
  · exact ⟨b.trans y.symm, c'.trans z.symm, e.trans u.symm⟩
  · have := left_one hm hm2
    subst this
    have hl := b.trans y.symm
    subst hl
    exact ⟨rfl, c'.trans z.symm, e.trans u.symm⟩
  · have hl := b.trans y.symm
    subst hl
    exact ⟨rfl, c'.trans z.symm, e.trans u.symm⟩
theorem take_drop_pre {l m : List ByteArray} {d : Nat} (h : m <+: l.drop d) : l.take d ++ m <+: l := by
  obtain ⟨x, hx⟩ := h
  exact ⟨x, by rw [List.append_assoc, hx, List.take_append_drop]⟩
theorem encL_pre {a b : List ByteArray} (h : a <+: b) : (encL a).length ≤ (encL b).length := by
  obtain ⟨x, rfl⟩ := h
  rw [encL_app, List.length_append]; omega
/-- The records after a call: one more, or some of those that were there. -/
theorem OpR.less {c n : Int} {s : ByteArray} {l l' : List ByteArray} {d d' : Nat} {r : Int} (h : OpR c n s l d l' d' r) (hz : ∀ x ∈ l, x.size ≤ 4096) : l' = l ++ [s] ∨ l' <+: l := by
  rcases h with ⟨_, b, _, _⟩ | ⟨_, b, _, _⟩ | ⟨_, ⟨m, hm, b⟩, _, _⟩ | ⟨_, _, _, b, _, _⟩
  · exact .inl b
  · subst b; exact .inr (List.prefix_refl _)
  · subst b; exact .inr (take_drop_pre (left_pre hz hm))
  · subst b; exact .inr (List.take_prefix _ _)
theorem OpR.bound {c n : Int} {s : ByteArray} {l l' : List ByteArray} {d d' : Nat} {r : Int} (h : OpR c n s l d l' d' r) (hz : ∀ x ∈ l, x.size ≤ 4096) (hs : s.size ≤ 300) : l'.length ≤ l.length + 1 ∧ (encL l').length ≤ (encL l).length + 400 := by
  rcases h.less hz with rfl | h
  · rw [List.length_append, encL_snoc, List.length_append]
    have h1 := encS_size s
    have h2 := itoaS_size s.size (by omega) (by omega)
    have e : (encS s).data.toList.length = (encS s).size := by simp
    simp; omega
  · have := h.length_le
    have := encL_pre h
    omega
/-- Where a journal may have gone. -/
def Moved (w w' : World) (g : Nat) (v : Value) (g' : Nat) (v' : Value) : Prop := Only w w' g v.ownBlock ∧ (g' = g ∨ w.heap.size ≤ g') ∧ Fresh w v v'
/-- What do says. -/
def DoS (w0 w : World) (g : Nat) (v : Value) (c n : Int) (s : ByteArray) (l : List ByteArray) (d : Nat) (e : Ending) (w' : World) : Prop :=
  ∃ g' v' l' d' r, e = .returned (.tuple #[.pointer (some ⟨g', 0, none⟩), .int .i64 r]) ∧ AJ w0 w' g' v' l' d' ∧ OpR c n s l d l' d' r ∧ Moved w w' g v g' v'
theorem Fresh.ge {w w1 : World} {v v' : Value} (h : Fresh w1 v v') (hs : w.heap.size ≤ w1.heap.size) : Fresh w v v' := by
  rcases h with h | h
  · exact .inl h
  · exact .inr (fun i hi => Nat.le_trans hs (h i hi))
theorem Only.from {w w1 w2 : World} {g : Nat} {b : Option Nat} (hb : Below w.heap.size w w1) (h : Only w1 w2 g b) : Only w w2 g b := (Only.of_below hb g b).trans h (.inl rfl)
theorem enc_take {l : List ByteArray} (d : Nat) : (encB (l.take d)).size ≤ (encL l).length := by
  rw [encB_size]; exact encL_pre (List.take_prefix _ _)
set_option maxHeartbeats 4000000 in
set_option maxRecDepth 100000 in
theorem do_any (c n : Int) (s : ByteArray) (w0 w : World) (hd : DigOk w) (hp : PowOk w) (hE : ErrsOk w) (g d : Nat) (v : Value) (l : List ByteArray) (h : AJ w0 w g v l d) (hl : l.length ≤ 199) (hel : (encL l).length ≤ 20000) (hs : s.size ≤ 4096) :
    Calls Tryd.prog 24 #[.pointer (some ⟨g, 0, none⟩), .agg #[.int .i64 c, .int .i64 n, .string s]] w fun e w' => DoS w0 w g v c n s l d e w' := by
  have HB : Hid (Below w.heap.size w (w.alloc (.cells #[.int .i64 c, .int .i64 n, .string s] 41))) := Lib.hid ((Below.refl _ _).alloc (Nat.le_refl _) _)
  have J0 := Lib.hid (h.below HB.out)
  have HZ : Hid (∀ x ∈ l, x.size ≤ 4096) := Lib.hid h.1.2.2
  have HDL : d ≤ l.length := h.1.2.1
  have HET := Lib.hid (enc_take (l := l) d)
  clear h
  by_cases h0 : c = 0
  · have t0 : (c == 0) = true := by rw [beq_iff_eq]; exact h0
    have H0 := Lib.hid h0
    clear h0
    go_enter Tryd.func24, Tryd.ntmps24
    go_wp2_with fail
    refine (aj_append s w0 _ _ _ _ _ J0.out (by omega) hs).mono ?_
    rintro e w1 ⟨rfl, v1, hj1, ho1, hf1⟩
    have HF : Hid (DoS w0 w g v c n s l d (.returned (.tuple #[.pointer (some ⟨g, 0, none⟩), .int .i64 0])) w1) := Lib.hid ⟨g, v1, _, _, _, rfl, hj1, .inl ⟨H0.out, rfl, rfl, rfl⟩, ho1.from HB.out, .inl rfl, hf1.ge HB.out.size⟩
    clear hj1 ho1 hf1
    go_wp2_with fail
    go_ret2
    exact HF.out
  · have t0 : (c == 0) = false := by rw [beq_eq_false_iff_ne]; exact h0
    by_cases h1 : c = 1
    · have t1 : (c == 1) = true := by rw [beq_iff_eq]; exact h1
      have H1 := Lib.hid h1
      clear h0 h1
      go_enter Tryd.func24, Tryd.ntmps24
      go_wp2_with fail
      refine (aj_sync w0 _ _ _ _ _ J0.out).mono ?_
      rintro e w1 ⟨rfl, v1, hj1, ho1, hf1⟩
      have HF : Hid (DoS w0 w g v c n s l d (.returned (.tuple #[.pointer (some ⟨g, 0, none⟩), .int .i64 l.length])) w1) := Lib.hid ⟨g, v1, _, _, _, rfl, hj1, .inr (.inl ⟨H1.out, rfl, rfl, rfl⟩), ho1.from HB.out, .inl rfl, hf1.ge HB.out.size⟩
      clear hj1 ho1 hf1
      go_wp2_with fail
      go_ret2
      exact HF.out
    · have t1 : (c == 1) = false := by rw [beq_eq_false_iff_ne]; exact h1
      by_cases h2 : c = 2
      · have t2 : (c == 2) = true := by rw [beq_iff_eq]; exact h2
        have H2 := Lib.hid h2
        clear h0 h1 h2
        go_enter Tryd.func24, Tryd.ntmps24
        go_wp2_with fail
        refine (aj_crash n w0 _ (hd.below HB.out) (hp.below HB.out) (hE.below HB.out) _ _ _ _ J0.out (by omega)).mono ?_
        rintro e w1 ⟨rfl, m, hm, v1, hj1, ho1, hf1⟩
        have HF : Hid (DoS w0 w g v c n s l d (.returned (.tuple #[.pointer (some ⟨g, 0, none⟩), .int .i64 0])) w1) := Lib.hid ⟨g, v1, _, _, _, rfl, hj1, .inr (.inr (.inl ⟨H2.out, ⟨m, hm, rfl⟩, rfl, rfl⟩)), ho1.from HB.out, .inl rfl, hf1.ge HB.out.size⟩
        clear hj1 ho1 hf1 hm
        go_wp2_with fail
        go_ret2
        exact HF.out
      · have t2 : (c == 2) = false := by rw [beq_eq_false_iff_ne]; exact h2
        have HN : Hid (c ≠ 0 ∧ c ≠ 1 ∧ c ≠ 2) := Lib.hid ⟨h0, h1, h2⟩
        clear h0 h1 h2
        go_enter Tryd.func24, Tryd.ntmps24
        go_wp2_with fail
        refine (aj_bytes w0 _ (hd.below HB.out) (hp.below HB.out) _ _ _ _ J0.out (by omega)).mono ?_
        rintro e w1 ⟨rfl, hb1⟩
        have B1 := Lib.hid (bthen HB.out hb1)
        have J1 := Lib.hid (J0.out.below hb1)
        clear hb1
        go_wp2_with fail
        refine (aj_open (encB (l.take d)) w0 _ J1.out.2 (hd.below B1.out) (hp.below B1.out) (hE.below B1.out) (by have := HET.out; omega)).mono ?_
        rintro e w2 ⟨⟨l2, n2, hD2, g2, v2, rfl, hj2, hg2, hv2⟩, hb2⟩
        obtain ⟨rfl, rfl⟩ := back_whole (small_take d HZ.out) hD2
        have B2 := Lib.hid (bthen B1.out hb2)
        have HF : Hid (DoS w0 w g v c n s l d (.returned (.tuple #[.pointer (some ⟨g2, 0, none⟩), .int .i64 0])) w2) := Lib.hid ⟨g2, v2, _, _, _, rfl, hj2, .inr (.inr (.inr ⟨HN.out.1, HN.out.2.1, HN.out.2.2, rfl, rfl, rfl⟩)), Only.of_below B2.out _ _, .inr (Nat.le_trans B1.out.size hg2), .inr (fun i hi => Nat.le_trans B1.out.size (hv2 i hi))⟩
        clear hj2 hg2 hv2 hb2 hD2
        go_wp2_with fail
        go_ret2
        exact HF.out
end Go.Proofs.YtkhdhelhkokdcaaDoor
