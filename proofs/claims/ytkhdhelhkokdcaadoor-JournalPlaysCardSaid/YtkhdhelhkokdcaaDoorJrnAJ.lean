/- The calls of a journal as steps of a law that began at the world w0. -/
import Derived.Test.YtkhdhelhkokdcaaDoorJrnCrash
namespace Go.Proofs.YtkhdhelhkokdcaaDoor
open Go.RowKit

theorem Only.weaken {w w' : World} {g : Nat} (h : Only w w' g none) (b : Option Nat) : Only w w' g b := ⟨h.os, h.tape, h.output, h.size, fun i hi hg _ => h.block i hi hg (fun e => by cases e)⟩
/-- A journal g with records l, d of them durable, in a law that began at w0. -/
def AJ (w0 w : World) (g : Nat) (v : Value) (l : List ByteArray) (d : Nat) : Prop := JSt w w0.heap.size g v l d ∧ Below w0.heap.size w0 w
/-- What a call leaves that may write the journal. -/
def StepJ (w0 w : World) (g : Nat) (v : Value) (l : List ByteArray) (d : Nat) (w' : World) : Prop := ∃ v', AJ w0 w' g v' l d ∧ Only w w' g v.ownBlock ∧ Fresh w v v'
theorem AJ.below {w0 w w' : World} {g d : Nat} {v : Value} {l : List ByteArray} (h : AJ w0 w g v l d) (hb : Below w.heap.size w w') : AJ w0 w' g v l d := ⟨h.1.below hb, bthen h.2 hb⟩
theorem AJ.le {w0 w : World} {g d : Nat} {v : Value} {l : List ByteArray} (h : AJ w0 w g v l d) : w0.heap.size ≤ w.heap.size := h.2.size
theorem AJ.step {w0 w w' : World} {g d d' : Nat} {v v' : Value} {l l' : List ByteArray} (h : AJ w0 w g v l d) (hj : JSt w' w0.heap.size g v' l' d') (ho : Only w w' g v.ownBlock) (hf : Fresh w v v') : StepJ w0 w g v l' d' w' :=
  ⟨v', ⟨hj, h.2.trans (ho.below h.le h.1.1.1 (fun i hi => (h.1.1.2.2.1.block i hi).1))⟩, ho, hf⟩
theorem aj_append (r : ByteArray) (w0 w : World) (g d : Nat) (v : Value) (l : List ByteArray) (h : AJ w0 w g v l d) (hl : l.length ≤ 4000) (hr : r.size ≤ 4096) :
    Calls Tryd.prog 27 #[.pointer (some ⟨g, 0, none⟩), .string r] w fun e w' => e = .returned (.int .i64 0) ∧ StepJ w0 w g v (l ++ [r]) d w' := by
  refine (jappend_ok r w _ g d v l h.1 h.le hl hr).mono ?_
  rintro e w' ⟨he, v', hj, ho, hf⟩
  exact ⟨he, h.step hj ho hf⟩
theorem aj_sync (w0 w : World) (g d : Nat) (v : Value) (l : List ByteArray) (h : AJ w0 w g v l d) :
    Calls Tryd.prog 28 #[.pointer (some ⟨g, 0, none⟩)] w fun e w' => e = .returned (.int .i64 l.length) ∧ StepJ w0 w g v l l.length w' := by
  refine (jsync_any w _ g d v l h.1).mono ?_
  rintro e w' ⟨he, hj, ho⟩
  exact ⟨he, h.step hj (ho.weaken _) (.inl rfl)⟩
def CrashS (w0 w : World) (g : Nat) (v : Value) (l : List ByteArray) (d : Nat) (keep : Int) (w' : World) : Prop := ∃ m, Left l d keep m ∧ StepJ w0 w g v (l.take d ++ m) (l.take d ++ m).length w'
theorem aj_crash (keep : Int) (w0 w : World) (hd : DigOk w) (hp : PowOk w) (hE : ErrsOk w) (g d : Nat) (v : Value) (l : List ByteArray) (h : AJ w0 w g v l d) (hl : l.length ≤ 200) :
    Calls Tryd.prog 29 #[.pointer (some ⟨g, 0, none⟩), .int .i64 keep] w fun e w' => e = .returned (.tuple #[]) ∧ CrashS w0 w g v l d keep w' := by
  refine (jcrash_any keep w hd hp hE _ g d v l h.1 h.le hl).mono ?_
  rintro e w' ⟨he, m, v', hm, hj, ho, hf⟩
  exact ⟨he, m, hm, h.step hj (ho.weaken _) hf⟩
/-- What makes a journal in such a law. -/
def MakeJ (w0 : World) (l : List ByteArray) (d : Nat) (e : Ending) (w w' : World) : Prop := ∃ g v, e = .returned (.pointer (some ⟨g, 0, none⟩)) ∧ AJ w0 w' g v l d ∧ w.heap.size ≤ g ∧ ∀ i, v.ownBlock = some i → w.heap.size ≤ i
theorem aj_new (w0 w : World) (hb : Below w0.heap.size w0 w) : Calls Tryd.prog 26 #[] w fun e w' => MakeJ w0 [] 0 e w w' ∧ Below w.heap.size w w' := by
  refine (jnew_any w).mono ?_
  rintro e w' ⟨⟨g, v, he, hj⟩, hb1⟩
  exact ⟨⟨g, v, he, ⟨hj.mono hb.size, bthen hb hb1⟩, hj.1.1, fun i hi => (hj.1.2.2.1.block i hi).1⟩, hb1⟩
def OpenS (w0 : World) (s : ByteArray) (e : Ending) (w w' : World) : Prop := ∃ l n, Dec s l n ∧ MakeJ w0 l l.length e w w'
theorem aj_open (s : ByteArray) (w0 w : World) (hb : Below w0.heap.size w0 w) (hd : DigOk w) (hp : PowOk w) (hE : ErrsOk w) (hs : s.size ≤ 70000) :
    Calls Tryd.prog 16 #[.string s] w fun e w' => OpenS w0 s e w w' ∧ Below w.heap.size w w' := by
  refine (jopen_any s w hd hp hE hs).mono ?_
  rintro e w' ⟨⟨l, n, hD, g, v, he, hj⟩, hb1⟩
  exact ⟨⟨l, n, hD, g, v, he, ⟨hj.mono hb.size, bthen hb hb1⟩, hj.1.1, fun i hi => (hj.1.2.2.1.block i hi).1⟩, hb1⟩
theorem aj_durable (w0 w : World) (g d : Nat) (v : Value) (l : List ByteArray) (h : AJ w0 w g v l d) :
    Calls Tryd.prog 20 #[.pointer (some ⟨g, 0, none⟩)] w fun e w' => e = .returned (.int .i64 d) ∧ w = w' := jdurable_any w _ g d v l h.1
theorem aj_bytes (w0 w : World) (hd : DigOk w) (hp : PowOk w) (g d : Nat) (v : Value) (l : List ByteArray) (h : AJ w0 w g v l d) (hl : l.length ≤ 4000) :
    Calls Tryd.prog 22 #[.pointer (some ⟨g, 0, none⟩)] w fun e w' => e = .returned (.string (encB (l.take d))) ∧ Below w.heap.size w w' := jbytes_any w hd hp _ g d v l h.1 hl
theorem aj_records (w0 w : World) (g d : Nat) (v : Value) (l : List ByteArray) (h : AJ w0 w g v l d) (hl : l.length ≤ 4000) :
    Calls Tryd.prog 18 #[.pointer (some ⟨g, 0, none⟩)] w fun e w' => RetStrs w.heap.size w' e l ∧ Below w.heap.size w w' := jrecords_any w _ g d v l h.1 hl
/-- A list that lies elsewhere stays as it is. -/
theorem Strs.only {w w' : World} {A : Option Addr} {l : List ByteArray} {g : Nat} {b : Option Nat} (h : Strs w A l) (ho : Only w w' g b) (hA : ∀ p, A = some p → p.block ≠ g ∧ b ≠ some p.block) : Strs w' A l := by
  intro i hi
  obtain ⟨b', o', e, hc⟩ := h i hi
  refine ⟨b', o', e, ?_⟩
  rw [← hc]
  obtain ⟨h1, h2⟩ := hA _ e
  exact World.cell?_of_block (ho.block b' (World.block_lt_of_cell? w _ hc) h1 h2)
/-- The row stays another one than block i. -/
theorem Fresh.ne {w : World} {v v' : Value} {i : Nat} (h : Fresh w v v') (hi : i < w.heap.size) (hv : v.ownBlock ≠ some i) : v'.ownBlock ≠ some i := by
  rcases h with h | h
  · rw [h]; exact hv
  · intro e; have := h i e; omega
/-- A list beside a journal: it lies in no block of the journal's. -/
def Apart (A : Option Addr) (w : World) (g : Nat) (v : Value) : Prop := ∀ p, A = some p → p.block ≠ g ∧ v.ownBlock ≠ some p.block ∧ p.block < w.heap.size
theorem Apart.new {A : Option Addr} {w w0 w' : World} {g d : Nat} {v : Value} {l : List ByteArray} (h : AJ w0 w g v l d) (hA : ∀ p, A = some p → w.heap.size ≤ p.block) (hlt : ∀ p, A = some p → p.block < w'.heap.size) : Apart A w' g v := by
  intro p hp
  have h1 := hA p hp
  refine ⟨fun e => ?_, fun e => ?_, hlt p hp⟩
  · have := blk_lt h.1.1.2.1; omega
  · have := (h.1.1.2.2.1.block _ e).2; omega
theorem Apart.below {A : Option Addr} {w w' : World} {g : Nat} {v : Value} (h : Apart A w g v) (hs : w.heap.size ≤ w'.heap.size) : Apart A w' g v := fun p hp => ⟨(h p hp).1, (h p hp).2.1, Nat.lt_of_lt_of_le (h p hp).2.2 hs⟩
theorem Apart.step {A : Option Addr} {w w' : World} {g : Nat} {v v' : Value} (h : Apart A w g v) (hs : w.heap.size ≤ w'.heap.size) (hf : Fresh w v v') : Apart A w' g v' := fun p hp => ⟨(h p hp).1, hf.ne (h p hp).2.2 (h p hp).2.1, Nat.lt_of_lt_of_le (h p hp).2.2 hs⟩
theorem Strs.apart {w w' : World} {A : Option Addr} {l : List ByteArray} {g : Nat} {v : Value} (h : Strs w A l) (ha : Apart A w g v) (ho : Only w w' g v.ownBlock) : Strs w' A l := h.only ho (fun p hp => ⟨(ha p hp).1, (ha p hp).2.1⟩)
end Go.Proofs.YtkhdhelhkokdcaaDoor
