/- Joined: Kit, Keeps, LawKit, Strs, OpenStrs, OpenAt, FieldInt, DigPlain, DigSum, DigHex, DigText, Builder, CodPlain, CodB64, CodR64, CodDec, ItoaLaws, DigMac, CodRefInt, CodIntP, CodEsc. -/
import Derived.Test.YthdpkfddmkijlaaGreatDoorProg
import Derived.WalkKit
import Derived.Lib.Hide
import Derived.Lib.Strings
import Derived.WalkSpells
import Derived.WalkLawsBesides
import Derived.Deep.Onto
import Derived.Laws.OwnMore
import Derived.ProofKit
import Derived.OpenShut
import Derived.LaidMore
import Derived.MakeChecks
import Derived.Stop.LaidErr
import Derived.Deep.DeepHandedRow
import Derived.Deep.DeepWitnessRowRef
import Derived.Lib.LaidTab
import Derived.SliceStrings
import Derived.Deep.Slices
import Derived.Laws.Bits64
import Derived.Test.YthdpkfddmkijlaaGreatDoorShelf
import Derived.Lib.Builder
import Derived.Lib.AppendStr
import Derived.Lib.UnsafeStr
import Derived.Lib.Walk
import Derived.Laws.Externs
import Derived.Outline
import Derived.Laws.BitsAllLaws
import Derived.Lib.ItoaMem
import Derived.Lib.ItoaNum
import Derived.Lib.AppendIntMem
import Derived.Lib.ItoaLen
import Derived.Laws.IdiomStrings
import Derived.Lib.AtoiAllCases
/- Small lemmas for all walks of this seat. -/
namespace Go.Proofs.YthdpkfddmkijlaaGreatDoor
open Go.RowKit

theorem ret_val {a b : Value} (h : a = b) : Ending.returned a = .returned b := by rw [h]
theorem ret_str {a b : ByteArray} (h : a = b) : Ending.returned (.string a) = .returned (.string b) := by rw [h]
theorem ret_int {k : IntKind} {a b : Int} (h : a = b) : Ending.returned (.int k a) = .returned (.int k b) := by rw [h]
theorem ret_bool {a b : Bool} (h : a = b) : Ending.returned (.bool a) = .returned (.bool b) := by rw [h]
/-- What stood in memory before stands there still. -/
theorem bcell {W w1 : World} (hb : Below W.heap.size W w1) : (∀ b o, b < W.heap.size → w1.cell? ⟨b, o, none⟩ = W.cell? ⟨b, o, none⟩) ∧ (∀ b o, b < W.heap.size → w1.frozen? ⟨b, o, none⟩ = W.frozen? ⟨b, o, none⟩) :=
  ⟨fun b o h => hb.cell (p := ⟨b, o, none⟩) h, fun b o h => hb.frozen (p := ⟨b, o, none⟩) h⟩
/-- A step after another one. -/
theorem bthen {W w1 w2 : World} (h1 : Below W.heap.size W w1) (h2 : Below w1.heap.size w1 w2) : Below W.heap.size W w2 := h1.trans (h2.mono h1.size)
theorem addr_add (b j : Nat) : (⟨b, 0, none⟩ : Addr).add j = ⟨b, j, none⟩ := by
  by_cases h : j = 0 <;> simp [Addr.add, h]
theorem addr_add_off (b o j : Nat) : (⟨b, o, none⟩ : Addr).add j = ⟨b, o + j, none⟩ := by
  by_cases h : j = 0 <;> simp [Addr.add, h]
/-- An owned row stays owned over a call that makes memory. -/
theorem own_below {w w' : World} {base : Nat} {e : TypeId} {size n : Nat} {v : Value} {xs : List Value} (h : w.ownsRow base e size v n xs) (hb : Below w.heap.size w w') : w'.ownsRow base e size v n xs := by
  refine ⟨h.1, ?_⟩
  rcases h.2 with hn | ⟨g, cap, cur, rfl, hg, hh, rest⟩
  · exact .inl hn
  · exact .inr ⟨g, cap, cur, rfl, hg, (hb.block g (Array.getElem?_eq_some_iff.1 hh).1).trans hh, rest⟩
theorem toList_inj {a b : ByteArray} (h : a.toList = b.toList) : a = b := by
  rw [Lib.toList_data, Lib.toList_data] at h
  exact ByteArray.ext (Array.toList_inj.1 h)
/-- Two strings that differ, as the walk asks it. -/
theorem str_ne {a b : ByteArray} (h : a ≠ b) : (a.toList == b.toList) = false := by
  rw [beq_eq_false_iff_ne]; exact fun e => h (toList_inj e)
end Go.Proofs.YthdpkfddmkijlaaGreatDoor

/- What a call may change: a set of blocks. -/
namespace Go.Proofs.YthdpkfddmkijlaaGreatDoor
open Go.RowKit

/-- Among what was, only blocks of S may have changed. -/
structure Keeps (w w' : World) (S : Nat → Prop) : Prop where
  os : w'.os = w.os
  tape : w'.tape = w.tape
  output : w'.output = w.output
  size : w.heap.size ≤ w'.heap.size
  block : ∀ i, i < w.heap.size → ¬ S i → w'.heap[i]? = w.heap[i]?
theorem Keeps.refl (w : World) (S : Nat → Prop) : Keeps w w S := ⟨rfl, rfl, rfl, Nat.le_refl _, fun _ _ _ => rfl⟩
theorem Keeps.of_below {w w' : World} (h : Below w.heap.size w w') (S : Nat → Prop) : Keeps w w' S := ⟨h.os, h.tape, h.output, h.size, fun i hi _ => h.block i hi⟩
theorem Keeps.of_grown {w w' : World} {b : Option Nat} {S : Nat → Prop} (h : w.grownBy w' b) (hb : ∀ i, b = some i → S i) : Keeps w w' S := ⟨h.os, h.tape, h.output, h.size, fun i hi hS => h.block i hi (fun e => hS (hb i e.symm))⟩
theorem Keeps.trans {w w1 w2 : World} {S S' : Nat → Prop} (h1 : Keeps w w1 S) (h2 : Keeps w1 w2 S') (hS : ∀ i, S' i → S i ∨ w.heap.size ≤ i) : Keeps w w2 S :=
  ⟨h2.os.trans h1.os, h2.tape.trans h1.tape, h2.output.trans h1.output, Nat.le_trans h1.size h2.size, fun i hi hn => by
    refine (h2.block i (Nat.lt_of_lt_of_le hi h1.size) ?_).trans (h1.block i hi hn)
    intro h
    rcases hS i h with h | h
    · exact hn h
    · omega⟩
theorem Keeps.setCell {w w' : World} {S : Nat → Prop} (h : Keeps w w' S) (g o : Nat) (u : Value) (hg : S g ∨ w.heap.size ≤ g) : Keeps w (w'.setCell ⟨g, o, none⟩ u) S :=
  ⟨h.os, h.tape, h.output, by simpa [World.setCell] using h.size, fun i hi hn => by
    refine (Below.heap_setCell w' ⟨g, o, none⟩ u i ?_).trans (h.block i hi hn)
    rintro rfl
    rcases hg with hg | hg
    · exact hn hg
    · have hg' : w.heap.size ≤ i := hg
      omega⟩
theorem Keeps.below {B : Nat} {w w' : World} {S : Nat → Prop} (h : Keeps w w' S) (hB : B ≤ w.heap.size) (hS : ∀ i, S i → B ≤ i) : Below B w w' :=
  ⟨h.os, h.tape, h.output, h.size, fun i hi => h.block i (by omega) (fun hs => by have := hS i hs; omega)⟩
theorem Keeps.then {w w1 w2 : World} {S : Nat → Prop} (h1 : Keeps w w1 S) (h2 : Below w1.heap.size w1 w2) : Keeps w w2 S := h1.trans (Keeps.of_below h2 (fun _ => False)) (fun _ h => h.elim)
theorem Keeps.after {w w1 w2 : World} {S : Nat → Prop} (h1 : Below w.heap.size w w1) (h2 : Keeps w1 w2 S) : Keeps w w2 S := (Keeps.of_below h1 S).trans h2 (fun _ h => .inl h)
/-- An owned row stays one where its block does. -/
theorem own_stays {w w' : World} {base : Nat} {e : TypeId} {size n : Nat} {v : Value} {xs : List Value} (h : w.ownsRow base e size v n xs) (hk : ∀ i, v.ownBlock = some i → w'.heap[i]? = w.heap[i]?) : w'.ownsRow base e size v n xs := by
  refine ⟨h.1, ?_⟩
  rcases h.2 with hn | ⟨g, cap, cur, rfl, hg, hh, rest⟩
  · exact .inl hn
  · exact .inr ⟨g, cap, cur, rfl, hg, (hk g rfl).trans hh, rest⟩
theorem own_keeps {w w' : World} {base : Nat} {e : TypeId} {size n : Nat} {v : Value} {xs : List Value} {S : Nat → Prop} (h : w.ownsRow base e size v n xs) (hk : Keeps w w' S) (hn : ∀ i, v.ownBlock = some i → ¬ S i) : w'.ownsRow base e size v n xs :=
  own_stays h (fun i hi => hk.block i (h.lt i hi).2 (hn i hi))
end Go.Proofs.YthdpkfddmkijlaaGreatDoor

/- What all laws of this seat share: a call that only makes memory leaves the arguments as they were. -/
namespace Go.Proofs.YthdpkfddmkijlaaGreatDoor
open Go.ChangeShapes Go.WideShapes Go.ChangeAt Go.RowKit

theorem own : ownKnob Tryz.prog.godebug = none := by kernel_rfl
theorem laidOut : laidOutB Tryz.prog = true := by kernel_rfl
/-- Arguments read behind the call as before it. -/
theorem trodAll_below {H : Type} {enc : TypeId × Value → H} {P : Program} {W W' : World} (hl : laidOutB P = true) (hb : Below W.heap.size W W') :
    ∀ {ts : List TypeId} {vs : List Value} {ds : List (DataW H)} {ps : List MemPlace}, (ts.all fun t => P.readableRec t && decide (t < P.types.size)) = true → DataW.TrodAll enc P W 0 (fun _ => true) true ts vs ds ps →
      (∀ x ∈ ps, x.block < W.heap.size) → DataW.TrodAll enc P W' 0 (fun b => decide (b < W.heap.size)) true ts vs ds ps
  | [], [], [], _, _, h, _ => h
  | t :: ts, v :: vs, d :: ds, _, hts, h, hlt => by
    obtain ⟨p, q, h1, h2, rfl⟩ := h
    rw [List.all_cons, Bool.and_eq_true, Bool.and_eq_true, decide_eq_true_eq] at hts
    exact ⟨p, q, Below.trod hl hts.1.1 hts.1.2 h1 hb (fun x hx => hlt x (List.mem_append_left _ hx)), trodAll_below hl hb hts.2 h2 (fun x hx => hlt x (List.mem_append_right _ hx)), rfl⟩
  | [], _ :: _, _, _, _, h, _ => h.elim
  | [], [], _ :: _, _, _, h, _ => h.elim
  | _ :: _, [], _, _, _, h, _ => h.elim
  | _ :: _, _ :: _, [], _, _, h, _ => h.elim
/-- A law's post, where the call answers true and only makes memory. -/
theorem law_post {H : Type} {enc : TypeId × Value → H} {P : Program} {f : Func} {s : ChangeSpec} {tb : TypeId} {W W' : World} {args : Array Value} {ds : List (DataW H)} {before : List MemPlace}
    (hl : laidOutB P = true) (hts : (f.params.toList.all fun t => P.readableRec t && decide (t < P.types.size)) = true) (hres : f.resultTypes = #[tb]) (hbool : P.underlying tb = some .bool)
    (hW : DataW.Whole enc P f.params.toList s.vars false W args.toList ds [] before) (hv : s.vars = []) (hfn : s.fn H (ds ++ []) = { results := [.lit (.bool true)], args := ds })
    (hA : DataW.TrodAll enc P W 0 (fun _ => true) true f.params.toList args.toList ds before) (hb : Below W.heap.size W W') :
    s.post enc P f false true false false W args (.bool true) W' := by
  refine ⟨ds, [], before, [], before, [], hW, ?_, ?_, ?_, World.keptBut_mono (fun p hp => ⟨hp, Or.inr (Or.inl hp)⟩) (hb.frame _), fun h => by cases h⟩
  · rw [hfn, hres]
    exact trodAll_cons_mk (shut_bool hbool true) trodAll_mk0
  · rw [hfn]
    exact trodAll_below hl hb hts hA (fun x hx => hW.lt x hx)
  · rw [hfn, hv]
    exact rfl
/-- A table's block. -/
theorem tab_block {P : Program} {W : World} {name : String} {k : IntKind} {zs : List Int} {g : Nat} (hg : P.globalNamed name = some g) (h : Lib.TabIs P W name k zs) :
    ∃ t fr, W.heap[g]? = some (.cells (zs.map fun z => Value.int k z).toArray t fr) := by
  unfold Lib.TabIs World.var? at h
  simp only [hg, Option.bind_some] at h
  split at h
  · rename_i cs t fr hb
    injection h with h
    exact ⟨t, fr, by rw [hb, h]⟩
  · cases h
theorem tab_lt {P : Program} {W : World} {name : String} {k : IntKind} {zs : List Int} {g : Nat} (hg : P.globalNamed name = some g) (h : Lib.TabIs P W name k zs) : g < W.heap.size := by
  obtain ⟨t, fr, h⟩ := tab_block hg h
  exact (Array.getElem?_eq_some_iff.1 h).1
end Go.Proofs.YthdpkfddmkijlaaGreatDoor

/- A slice that reads as a list of strings. -/
namespace Go.Proofs.YthdpkfddmkijlaaGreatDoor
open Go.RowKit

/-- A slice's address reads as a list of strings. -/
def Strs (w : World) (A : Option Addr) (l : List ByteArray) : Prop :=
  ∀ i, (h : i < l.length) → ∃ b o, A = some ⟨b, o, none⟩ ∧ w.cell? ⟨b, o + i, none⟩ = some (.string l[i])
theorem Strs.below {w w' : World} {A : Option Addr} {l : List ByteArray} (h : Strs w A l) (hb : Below w.heap.size w w') : Strs w' A l := by
  intro i hi
  obtain ⟨b, o, e, hc⟩ := h i hi
  exact ⟨b, o, e, (hb.cell (World.block_lt_of_cell? w _ hc)).trans hc⟩
theorem Strs.nil_ (w : World) (A : Option Addr) : Strs w A [] := fun i h => absurd h (by simp)
/-- What a function that hands back a list of strings says. -/
def RetStrs (B : Nat) (w' : World) (e : Ending) (l : List ByteArray) : Prop := ∃ A cap, e = .returned (.slice A l.length cap) ∧ Strs w' A l ∧ ∀ p, A = some p → B ≤ p.block
theorem Strs.own {w : World} {base e g n cap : Nat} {xs : List Value} {l : List ByteArray} (h : w.ownsRow base e 1 (.slice (some ⟨g, 0, none⟩) n cap) n xs) (hn : n = l.length)
    (hx : ∀ j, (h : j < l.length) → xs[j]? = some (.string l[j])) : Strs w (some ⟨g, 0, none⟩) l := by
  intro i hi
  refine ⟨g, 0, rfl, ?_⟩
  rw [Nat.zero_add, h.cellAt i (by omega), hx i hi]

theorem RetStrs.own {w : World} {base e n : Nat} {v : Value} {xs : List Value} {l : List ByteArray} (h : w.ownsRow base e 1 v n xs) (hn : l.length = n)
    (hx : ∀ j, (h : j < l.length) → xs[j]? = some (.string l[j])) : RetStrs base w (.returned v) l := by
  rcases h.2 with ⟨rfl, rfl⟩ | ⟨g, cap, cur, rfl, hg, _⟩
  · have : l = [] := List.eq_nil_of_length_eq_zero hn
    subst this
    exact ⟨none, 0, rfl, Strs.nil_ _ _, fun p h => by cases h⟩
  · subst hn
    exact ⟨_, cap, rfl, Strs.own h rfl hx, fun p h => by cases h; exact hg⟩
theorem Strs.drew {w : World} {A : Option Addr} {l : List ByteArray} (h : Strs w A l) : Strs w.drew A l := h
theorem strs_take {w : World} {A : Option Addr} {l : List ByteArray} (h : Strs w A l) (k : Nat) : Strs w A (l.take k) := by
  intro i hi
  obtain ⟨b, o, e, hc⟩ := h i (by simp at hi; omega)
  exact ⟨b, o, e, by simpa using hc⟩
/-- The first k cells of a row hold the first k strings of a list. -/
def Done (xs : List Value) (l : List ByteArray) (k : Nat) : Prop := ∀ j, (h : j < l.length) → j < k → xs[j]? = some (.string l[j])
theorem Done.zero (xs : List Value) (l : List ByteArray) : Done xs l 0 := fun j _ h => absurd h (by omega)
theorem Done.set {xs : List Value} {l : List ByteArray} {k : Nat} (h : Done xs l k) (hx : k < xs.length) {v : Value} (hv : ∀ hl : k < l.length, v = .string l[k]) : Done (xs.set k v) l (k + 1) := by
  intro j hj hjk
  by_cases e : j = k
  · subst e
    rw [List.getElem?_set_self hx, hv hj]
  · rw [List.getElem?_set_ne (Ne.symm e)]
    exact h j hj (by omega)
theorem Tryz.info_s : (Tryz.prog.info? 9).map (fun i => (i.zero, i.size, i.bytes)) = some (some (.string ByteArray.empty), 1, 16) := by kernel_rfl
/-- A string as a value. -/
def strV (s : ByteArray) : Value := .string s
/-- The cells of a list of strings. -/
def strVs (l : List ByteArray) : List Value := l.map strV
theorem strVs_snoc (l : List ByteArray) (s : ByteArray) : strVs l ++ [strV s] = strVs (l ++ [s]) := by simp [strVs]
theorem strVs_at (l : List ByteArray) : ∀ j, (h : j < l.length) → (strVs l)[j]? = some (.string l[j]) := by
  intro j h
  simp [strVs, strV, h]
/-- What a function that hands back a list of strings and a code says. -/
def RetStrs2 (B : Nat) (w' : World) (e : Ending) (l : List ByteArray) (c : Int) : Prop := ∃ A cap, e = .returned (.tuple #[.slice A l.length cap, .int .i64 c]) ∧ Strs w' A l ∧ (∀ p, A = some p → B ≤ p.block) ∧ l.length ≤ cap
theorem RetStrs2.own {w : World} {base e n : Nat} {v : Value} {xs : List Value} {l : List ByteArray} {c : Int} (h : w.ownsRow base e 1 v n xs) (hn : l.length = n)
    (hx : ∀ j, (h : j < l.length) → xs[j]? = some (.string l[j])) : RetStrs2 base w (.returned (.tuple #[v, .int .i64 c])) l c := by
  rcases h.2 with ⟨rfl, rfl⟩ | ⟨g, cap, cur, rfl, hg, _, hnc, _⟩
  · have : l = [] := List.eq_nil_of_length_eq_zero hn
    subst this
    exact ⟨none, 0, rfl, Strs.nil_ _ _, (fun p h => by cases h), Nat.le_refl _⟩
  · subst hn
    exact ⟨_, cap, rfl, Strs.own h rfl hx, (fun p h => by cases h; exact hg), hnc⟩
/-- An append leaves a list alone that does not lie in the row. -/
theorem Strs.far {w w' : World} {A : Option Addr} {l : List ByteArray} {row : Option Nat} (h : Strs w A l) (hg : w.grownBy w' row) (hr : ∀ p g, A = some p → row = some g → p.block ≠ g) : Strs w' A l := by
  intro i hi
  obtain ⟨b, o, e, hc⟩ := h i hi
  refine ⟨b, o, e, ?_⟩
  have hb := World.block_lt_of_cell? w _ hc
  rw [← hc]
  refine World.cell?_of_block (hg.block b hb ?_)
  intro h
  exact hr _ b e h.symm rfl
theorem Strs.alloc {w : World} {A : Option Addr} {l : List ByteArray} (h : Strs w A l) (o : Obj) : Strs (w.alloc o) A l :=
  h.below ((Below.refl _ _).alloc (Nat.le_refl _) o)
end Go.Proofs.YthdpkfddmkijlaaGreatDoor

/- An argument of type []string, opened. -/
namespace Go.Proofs.YthdpkfddmkijlaaGreatDoor
open Go.ChangeShapes Go.WideShapes Go.ChangeAt Go.RowKit

theorem open_strl {H : Type} {enc : TypeId × Value → H} {P : Program} {W : World} {b0 : Nat} {t e : TypeId} {v : Value} {d : DataW H} {p : List MemPlace}
    (ht : P.underlying t = some (.slice e)) (he : P.underlying e = some .string) (hce : P.cellsOf e = 1)
    (hval : Value.okWide P W .any b0 t v) (hd : DataW.Trod enc P W 0 (fun _ => true) true t v d p) :
    ∃ A l c, v = .slice A (l : List ByteArray).length c ∧ Strs W A l ∧ l.length ≤ c ∧ l.length ≤ 9223372036854775807 ∧ ∀ s ∈ l, s.size ≤ 9223372036854775807 := by
  obtain ⟨a0, len, cap, rfl⟩ := okWide_slice ht hval
  obtain ⟨fuel, hf⟩ := hd
  rcases open_strings ht he hce hf with ⟨hcs, hx⟩ | ⟨a, len', cap', ss, hcs, h1, hl, hm, hz, hx, hcell, hws⟩
  · have e0 : Value.slice a0 len cap = .slice none 0 0 := by simpa [Value.cells] using hcs
    exact ⟨none, [], 0, e0, Strs.nil_ _ _, Nat.le_refl _, by simp, fun s h => by simp at h⟩
  · have e0 : Value.slice a0 len cap = .slice (some a) len' cap' := by simpa [Value.cells] using hcs
    simp only [if_true] at hz
    have hlen : (ss.take len').length = len' := by rw [List.length_take]; omega
    unfold maxLen at hm hws
    refine ⟨some a, ss.take len', cap', by rw [hlen]; exact e0, ?_, by rw [hlen]; exact hl, by rw [hlen]; omega, fun s hs => hws s (List.mem_of_mem_take hs)⟩
    intro i hi
    have hi' : i < ss.length := by rw [List.length_take] at hi; omega
    obtain ⟨b, off, spot⟩ := a
    have hspot : spot = none := by simpa [Addr.add] using World.cell?_spot (hcell 0 (by omega))
    subst hspot
    refine ⟨b, off, rfl, ?_⟩
    have := hcell i hi'
    rw [Go.WideShapes.add_plain] at this
    rw [this, List.getD_eq_getElem?_getD, List.getElem?_eq_getElem hi', Option.getD_some, List.getElem_take]
end Go.Proofs.YthdpkfddmkijlaaGreatDoor

/- Arguments that are slices, opened at every index; slices of pairs of strings; slices of slices of strings. -/
namespace Go.Proofs.YthdpkfddmkijlaaGreatDoor
open Go.ChangeShapes Go.WideShapes Go.ChangeAt Go.RowKit Go.Deep

section
variable {H : Type} {enc : TypeId × Value → H} {P : Program} {W : World}
/-- A slice, its elements' cells and how they read. -/
theorem open_at {t e : TypeId} {fuel : Nat} {v : Value} {x : DataW H × List MemPlace} (ht : P.underlying t = some (.slice e)) (hc : 0 < P.cellsOf e)
    (hf : DataW.trod enc P W 0 (fun _ => true) true fuel t [v] = some x) :
    ∃ A len cap, v = .slice A len cap ∧ len ≤ cap ∧ cap ≤ 9223372036854775807 ∧ ∀ i, i < len → ∃ b o n y cs, A = some ⟨b, o, none⟩ ∧ (∀ j, j < P.cellsOf e → W.cell? ⟨b, o + i * P.cellsOf e + j, none⟩ = cs[j]?) ∧ cs.length = P.cellsOf e ∧ DataW.trod enc P W 0 (fun _ => true) true n e cs = some y := by
  rcases open_slice ht hf with ⟨hcs, hx⟩ | ⟨a, len, cap, m, n, D, Pl, hcs, h1, hl, hm, hmm, hx, hi⟩
  · have e0 : v = .slice none 0 0 := by simpa using hcs
    exact ⟨none, 0, 0, e0, Nat.le_refl _, by omega, fun i h => absurd h (by omega)⟩
  · have e0 : v = .slice (some a) len cap := by simpa using hcs
    simp only [if_true] at hmm
    unfold maxLen at hm
    refine ⟨some a, len, cap, e0, hl, hm, fun i hil => ?_⟩
    obtain ⟨cs, h2, h3⟩ := hi i (by omega)
    obtain ⟨_, hcl, hat⟩ := World.cells?_some h2
    obtain ⟨b, off, spot⟩ := a
    have hspot : spot = none := by
      obtain ⟨cs0, h20, _⟩ := hi 0 (by omega)
      obtain ⟨_, hcl0, hat0⟩ := World.cells?_some h20
      have h := hat0 0 hc
      rw [List.getElem?_eq_getElem (show 0 < cs0.length by omega)] at h
      have e1 : ((⟨b, off, spot⟩ : Addr).add (0 * P.cellsOf e)).add 0 = ⟨b, off, spot⟩ := by simp [Addr.add]
      rw [e1] at h
      exact World.cell?_spot h
    subst hspot
    refine ⟨b, off, n, _, cs, rfl, fun j hj => ?_, hcl, h3⟩
    have h := hat j hj
    rw [add_add, Go.WideShapes.add_plain] at h
    rw [← h, Nat.add_assoc]
theorem open_at' {t e : TypeId} {b0 : Nat} {v : Value} {d : DataW H} {p : List MemPlace} (ht : P.underlying t = some (.slice e)) (hc : 0 < P.cellsOf e)
    (hval : Value.okWide P W .any b0 t v) (hd : DataW.Trod enc P W 0 (fun _ => true) true t v d p) :
    ∃ A len cap, v = .slice A len cap ∧ len ≤ cap ∧ cap ≤ 9223372036854775807 ∧ ∀ i, i < len → ∃ b o n y cs, A = some ⟨b, o, none⟩ ∧ (∀ j, j < P.cellsOf e → W.cell? ⟨b, o + i * P.cellsOf e + j, none⟩ = cs[j]?) ∧ cs.length = P.cellsOf e ∧ DataW.trod enc P W 0 (fun _ => true) true n e cs = some y := by
  obtain ⟨a0, len, cap, rfl⟩ := okWide_slice ht hval
  obtain ⟨fuel, hf⟩ := hd
  exact open_at ht hc (by simpa [Value.cells] using hf)
/-- A field of one cell that is a string. -/
theorem field_str {w : World} {n : Nat} {fs : Array Field} {t : TypeId} {cs : List Value} {y : DataW H × List MemPlace} (ht : P.underlying t = some (.struct fs)) (h : DataW.trod enc P w 0 (fun _ => true) true n t cs = some y) (j : Nat) (f : Field) (hj : fs[j]? = some f)
    (hs : P.underlying f.type = some .string) (hc : P.cellsOf f.type = 1) : ∃ s : ByteArray, cs[f.offset]? = some (.string s) ∧ s.size ≤ 9223372036854775807 := by
  obtain ⟨xs, n', _, _, _, hlen, hg⟩ := DataW.trod_struct ht h
  have h1 := hg j f hj
  have hjl : j < fs.size := (Array.getElem?_eq_some_iff.1 hj).1
  rw [List.getElem?_eq_getElem (by omega), hc] at h1
  obtain ⟨s, h2, _, h4⟩ := DataW.trod_string hs h1
  refine ⟨s, ?_, by unfold maxLen at h4; exact h4⟩
  have : (List.take 1 (List.drop f.offset cs))[0]? = some (.string s) := by rw [h2]; rfl
  simpa [List.getElem?_take, List.getElem?_drop] using this
end
end Go.Proofs.YthdpkfddmkijlaaGreatDoor

/- A field of one cell that is an int, opened. -/
namespace Go.Proofs.YthdpkfddmkijlaaGreatDoor
open Go.ChangeShapes Go.WideShapes Go.ChangeAt Go.RowKit Go.Deep

/-- A field of one cell that is an int. -/
theorem field_int {H : Type} {enc : TypeId × Value → H} {P : Program} {w : World} {n : Nat} {fs : Array Field} {t : TypeId} {k : IntKind} {cs : List Value} {y : DataW H × List MemPlace} (ht : P.underlying t = some (.struct fs)) (h : DataW.trod enc P w 0 (fun _ => true) true n t cs = some y) (j : Nat) (f : Field) (hj : fs[j]? = some f)
    (hs : P.underlying f.type = some (.int k)) (hc : P.cellsOf f.type = 1) : ∃ z : Int, cs[f.offset]? = some (.int k z) ∧ (Lit.int k z).wf = true := by
  obtain ⟨xs, n', _, _, _, hlen, hg⟩ := DataW.trod_struct ht h
  have h1 := hg j f hj
  have hjl : j < fs.size := (Array.getElem?_eq_some_iff.1 hj).1
  rw [List.getElem?_eq_getElem (by omega), hc] at h1
  obtain ⟨z, h2, _, h4⟩ := DataW.trod_int hs h1
  refine ⟨z, ?_, h4⟩
  have : (List.take 1 (List.drop f.offset cs))[0]? = some (.int k z) := by rw [h2]; rfl
  simpa [List.getElem?_take, List.getElem?_drop] using this
end Go.Proofs.YthdpkfddmkijlaaGreatDoor

/- Plain functions for the layer digest: what Sum, Hex, ReadHex, Mac .. compute, on byte arrays and integers. No program in sight. -/
namespace Go.Proofs.YthdpkfddmkijlaaGreatDoor
open Go.RowKit

/-- One round of Sum's loop. -/
def sumStep (h : Int) (c : UInt8) : Int := IntKind.u64.wrap (bits BinOp.xor IntKind.u64 h (IntKind.u64.wrap (c.toNat : Int)) * 1099511628211)
/-- The loop. -/
def sumRun (l : List UInt8) : Int := l.foldl sumStep 14695981039346656037
/-- The final mixing. -/
def sumMix (z : Int) : Int :=
  (bits BinOp.xor IntKind.u64
              (IntKind.u64.wrap
                (bits BinOp.xor IntKind.u64
                    (IntKind.u64.wrap (bits BinOp.xor IntKind.u64 z (z / 8589934592) * 18397679294719823053))
                    (IntKind.u64.wrap (bits BinOp.xor IntKind.u64 z (z / 8589934592) * 18397679294719823053) /
                      8589934592) *
                  14181476777654086739))
              (IntKind.u64.wrap
                  (bits BinOp.xor IntKind.u64
                      (IntKind.u64.wrap (bits BinOp.xor IntKind.u64 z (z / 8589934592) * 18397679294719823053))
                      (IntKind.u64.wrap (bits BinOp.xor IntKind.u64 z (z / 8589934592) * 18397679294719823053) /
                        8589934592) *
                    14181476777654086739) /
                8589934592))
def sumS (s : ByteArray) : Int := sumMix (sumRun s.data.toList)

theorem take_snoc (s : ByteArray) (k : Nat) (h : k < s.size) : s.data.toList.take (k + 1) = s.data.toList.take k ++ [s[k]] := by
  rw [List.take_succ_eq_append_getElem (by simpa using h)]; rfl
theorem sumRun_snoc (s : ByteArray) (k : Nat) (h : k < s.size) : sumRun (s.data.toList.take (k + 1)) = IntKind.u64.wrap (bits BinOp.xor IntKind.u64 (sumRun (s.data.toList.take k)) (IntKind.u64.wrap (s[k].toNat : Int)) * 1099511628211) := by
  rw [take_snoc s k h]; unfold sumRun; rw [List.foldl_append]; rfl
theorem sumRun_all (s : ByteArray) (k : Nat) (h : ¬ k < s.size) : sumRun (s.data.toList.take k) = sumRun s.data.toList := by
  rw [List.take_of_length_le]; simp; have : s.size = s.data.size := rfl; omega

/-- x & 15 on uint64. -/
theorem and15 (x : Int) : bits BinOp.and IntKind.u64 x 15 = x % 16 := by
  show IntKind.u64.wrap ((BitVec.ofInt 64 x &&& BitVec.ofInt 64 15).toNat : Int) = _
  have h1 : (BitVec.ofInt 64 x).toNat = (x % 18446744073709551616).toNat := by rw [BitVec.toNat_ofInt]; rfl
  have h2 : (BitVec.ofInt 64 15).toNat = 15 := by decide
  rw [BitVec.toNat_and, h1, h2, show (15 : Nat) = 2 ^ 4 - 1 from rfl, Nat.and_two_pow_sub_one_eq_mod, IntKind.wrap_u64]
  omega

/-- The digit with a value below 16. -/
def hexDig (d : Nat) : UInt8 := if d < 10 then UInt8.ofNat (48 + d) else UInt8.ofNat (87 + d)
/-- The last i hexadecimal digits of n. -/
def hexTail : Nat → Int → List UInt8
  | 0, _ => []
  | i + 1, n => hexDig (n / 16 ^ i % 16).toNat :: hexTail i n
/-- The 16 hexadecimal digits of n. -/
def hexS (n : Int) : ByteArray := ⟨(hexTail 16 n).toArray⟩
theorem hexTail_length (i : Nat) (n : Int) : (hexTail i n).length = i := by
  induction i with
  | zero => rfl
  | succ i ih => simp [hexTail, ih]
theorem hexS_size (n : Int) : (hexS n).size = 16 := by
  show (hexTail 16 n).toArray.size = 16
  simp [hexTail_length]
/-- What holds in identityref03.Hex behind k rounds. -/
def HexAt (n : Int) (k : Nat) (z : Int) (t : ByteArray) : Prop := z = n / 16 ^ k ∧ t = ⟨(hexTail k n).toArray⟩
theorem HexAt.zero (n : Int) : HexAt n 0 n ⟨#[]⟩ := ⟨by simp, rfl⟩
theorem digit_extract (d : Nat) (h : d < 16) : (⟨#[48, 49, 50, 51, 52, 53, 54, 55, 56, 57, 97, 98, 99, 100, 101, 102]⟩ : ByteArray).extract d (d + 1) = ⟨#[hexDig d]⟩ := by
  have : ∀ d : Fin 16, (⟨#[48, 49, 50, 51, 52, 53, 54, 55, 56, 57, 97, 98, 99, 100, 101, 102]⟩ : ByteArray).extract d.1 (d.1 + 1) = ⟨#[hexDig d.1]⟩ := by decide +kernel
  exact this ⟨d, h⟩
theorem HexAt.step {n : Int} {k : Nat} {z : Int} {t : ByteArray} (h : HexAt n k z t) (hlt : k < 16) (h0 : 0 ≤ n) (h1 : n < 18446744073709551616) :
    0 ≤ IntKind.u64.wrap (z.tdiv 16) ∧ ((⟨#[48, 49, 50, 51, 52, 53, 54, 55, 56, 57, 97, 98, 99, 100, 101, 102]⟩ : ByteArray).extract (z % 16).toNat (z % 16 + 1).toNat ++ t).size ≤ 16 ∧ HexAt n (k + 1) (IntKind.u64.wrap (z.tdiv 16)) ((⟨#[48, 49, 50, 51, 52, 53, 54, 55, 56, 57, 97, 98, 99, 100, 101, 102]⟩ : ByteArray).extract (z % 16).toNat (z % 16 + 1).toNat ++ t) := by
  obtain ⟨rfl, rfl⟩ := h
  have p16 : (0 : Int) < 16 ^ k := Int.pow_pos (by decide)
  have z0 : 0 ≤ n / 16 ^ k := Int.ediv_nonneg h0 (by omega)
  have z1 : n / 16 ^ k ≤ n := Int.ediv_le_self _ h0
  have hw : IntKind.u64.wrap ((n / 16 ^ k).tdiv 16) = n / 16 ^ (k + 1) := by
    rw [Int.tdiv_eq_ediv_of_nonneg z0, IntKind.wrap_u64, Int.emod_eq_of_lt (by omega) (by omega), Int.pow_succ, Int.ediv_ediv_of_nonneg (by omega)]
  have hx : (⟨#[48, 49, 50, 51, 52, 53, 54, 55, 56, 57, 97, 98, 99, 100, 101, 102]⟩ : ByteArray).extract (n / 16 ^ k % 16).toNat (n / 16 ^ k % 16 + 1).toNat ++ ⟨(hexTail k n).toArray⟩ = ⟨(hexTail (k + 1) n).toArray⟩ := by
    have e : (n / 16 ^ k % 16 + 1).toNat = (n / 16 ^ k % 16).toNat + 1 := by omega
    rw [e, digit_extract _ (by omega)]
    apply ByteArray.ext
    simp [hexTail, ByteArray.data_append]
  rw [hx, hw]
  refine ⟨Int.ediv_nonneg h0 (Int.le_of_lt (Int.pow_pos (by decide))), ?_, rfl, rfl⟩
  show (hexTail (k + 1) n).toArray.size ≤ 16
  simp [hexTail_length]; omega
theorem HexAt.done {n : Int} {k : Nat} {z : Int} {t : ByteArray} (h : HexAt n k z t) (hk : k ≤ 16) (hlt : ¬ k < 16) : t = hexS n := by
  obtain ⟨rfl, rfl⟩ := h
  obtain rfl : k = 16 := by omega
  rfl
/-- The cells of digest.Hex's array when i digits are written. -/
def hexCells (i : Nat) (n : Int) : Array Value := (List.replicate (16 - i) (Value.int IntKind.u8 0) ++ (hexTail i n).map (fun c => Value.int IntKind.u8 (c.toNat : Int))).toArray
end Go.Proofs.YthdpkfddmkijlaaGreatDoor

/- digest.Sum and identityref03.Sum compute sumS. -/
namespace Go.Proofs.YthdpkfddmkijlaaGreatDoor
open Go.RowKit

set_option maxHeartbeats 400000 in
theorem sum_any (s : ByteArray) (w : World) (hs : s.size ≤ 9223372036854775807) :
    Calls Tryz.prog 70 #[.string s] w fun e w' => e = .returned (.int .u64 (sumS s)) ∧ w = w' := by
  go_enter Tryz.func70, Tryz.ntmps70
  go_wp2
  go_loop [3, 4, 7] (fun h _ j => ∃ k : Nat, k ≤ s.size ∧ j = .int .i64 k ∧ h = .int .u64 (sumRun (s.data.toList.take k))) (fun _ _ i => s.size - (intOf i).toNat)
  case atStart => exact ⟨0, Nat.zero_le _, rfl, rfl⟩
  case round =>
    obtain ⟨k, hk, rfl, rfl⟩ := hrel
    by_cases hlt : k < s.size
    · have HS := Lib.hid (sumRun_snoc s k hlt)
      go_wp2
      go_round
      case rel => exact ⟨k + 1, by omega, by go_num, by rw [HS.out]⟩
      case measure => simp [intOf]; omega
    · have HS := Lib.hid (sumRun_all s k hlt)
      go_wp2
      go_ret
      exact ⟨by rw [HS.out]; rfl, rfl⟩

set_option maxHeartbeats 400000 in
theorem rsum_any (s : ByteArray) (w : World) (hs : s.size ≤ 9223372036854775807) :
    Calls Tryz.prog 91 #[.string s] w fun e w' => e = .returned (.int .u64 (sumS s)) ∧ w = w' := by
  go_enter Tryz.func91, Tryz.ntmps91
  go_wp2
  go_loop [3, 4] (fun h j => ∃ k : Nat, k ≤ s.size ∧ j = .int .i64 k ∧ h = .int .u64 (sumRun (s.data.toList.take k))) (fun _ i => s.size - (intOf i).toNat)
  case atStart => exact ⟨0, Nat.zero_le _, rfl, rfl⟩
  case round =>
    obtain ⟨k, hk, rfl, rfl⟩ := hrel
    by_cases hlt : k < s.size
    · have HS := Lib.hid (sumRun_snoc s k hlt)
      go_wp2
      go_round
      case rel => exact ⟨k + 1, by omega, by go_num, by rw [HS.out]⟩
      case measure => simp [intOf]; omega
    · have HS := Lib.hid (sumRun_all s k hlt)
      go_wp2
      go_ret
      exact ⟨by rw [HS.out]; rfl, rfl⟩
end Go.Proofs.YthdpkfddmkijlaaGreatDoor

/- digest.Hex and identityref03.Hex compute hexS. -/
namespace Go.Proofs.YthdpkfddmkijlaaGreatDoor
open Go.RowKit

set_option maxHeartbeats 400000 in
theorem rhex_any (n : Int) (w : World) (h0 : 0 ≤ n) (h1 : n < 18446744073709551616) :
    Calls Tryz.prog 90 #[.int .u64 n] w fun e w' => e = .returned (.string (hexS n)) ∧ w = w' := by
  have H1 := Lib.hid h1
  clear h1
  go_enter Tryz.func90, Tryz.ntmps90
  go_wp2
  go_loop [0, 3, 4, 5] (fun m s j d => ∃ k : Nat, ∃ z : Int, ∃ t : ByteArray, 0 ≤ z ∧ t.size ≤ 16 ∧ k ≤ 16 ∧ HexAt n k z t ∧ j = .int .i64 k ∧ m = .int .u64 z ∧ s = .string t) (fun _ _ i _ => 16 - (intOf i).toNat)
  case atStart => exact ⟨0, _, _, h0, by decide, by omega, HexAt.zero n, rfl, rfl, rfl⟩
  case round =>
    obtain ⟨k, z, t, hz, ht, hk, hat, rfl, rfl, rfl⟩ := hrel
    by_cases hlt : k < 16
    · have hs1 := Lib.hid (hat.step hlt h0 H1.out)
      clear hat
      go_wp2
      go_round
      case rel => exact ⟨k + 1, _, _, hs1.out.1, hs1.out.2.1, by omega, hs1.out.2.2, by go_num, rfl, rfl⟩
      case measure => simp [intOf]; omega
    · have hs := Lib.hid (hat.done hk hlt)
      go_wp2
      go_ret
      exact ⟨congrArg (fun t => Ending.returned (.string t)) hs.out, rfl⟩

/-- The package's table of digits, as its block holds it. -/
def digCells : Array Value := #[.int .u8 48, .int .u8 49, .int .u8 50, .int .u8 51, .int .u8 52, .int .u8 53, .int .u8 54, .int .u8 55, .int .u8 56, .int .u8 57, .int .u8 97, .int .u8 98, .int .u8 99, .int .u8 100, .int .u8 101, .int .u8 102]
/-- The package's table of digits is laid. -/
def DigOk (w : World) : Prop := ∃ t fr, w.heap[0]? = some (.cells digCells t fr)
theorem DigOk.lt {w : World} (h : DigOk w) : 0 < w.heap.size := by
  obtain ⟨t, fr, h⟩ := h
  exact (Array.getElem?_eq_some_iff.1 h).1
theorem DigOk.below {w w' : World} (h : DigOk w) (hb : Below w.heap.size w w') : DigOk w' := by
  have hl := h.lt
  obtain ⟨t, fr, h⟩ := h
  exact ⟨t, fr, (hb.block _ hl).trans h⟩
theorem DigOk.drew {w : World} (h : DigOk w) : DigOk w.drew := h
theorem digCells_at (k : Nat) (h : k < 16) : digCells[k]? = some (.int .u8 ((hexDig k).toNat : Int)) := by
  rcases k with _|_|_|_|_|_|_|_|_|_|_|_|_|_|_|_|k <;> first | omega | rfl
theorem DigOk.cells {w : World} (h : DigOk w) : 0 < w.heap.size ∧ ∀ k : Nat, k < 16 → w.cell? ⟨0, k, none⟩ = some (.int .u8 ((hexDig k).toNat : Int)) := by
  refine ⟨h.lt, fun k hk => ?_⟩
  obtain ⟨t, fr, h⟩ := h
  unfold World.cell?
  simp [h, digCells_at k hk]
theorem hexS_lit (n : Int) : hexS n = ⟨#[hexDig (n / 1152921504606846976 % 16).toNat, hexDig (n / 72057594037927936 % 16).toNat, hexDig (n / 4503599627370496 % 16).toNat, hexDig (n / 281474976710656 % 16).toNat, hexDig (n / 17592186044416 % 16).toNat, hexDig (n / 1099511627776 % 16).toNat, hexDig (n / 68719476736 % 16).toNat, hexDig (n / 4294967296 % 16).toNat, hexDig (n / 268435456 % 16).toNat, hexDig (n / 16777216 % 16).toNat, hexDig (n / 1048576 % 16).toNat, hexDig (n / 65536 % 16).toNat, hexDig (n / 4096 % 16).toNat, hexDig (n / 256 % 16).toNat, hexDig (n / 16 % 16).toNat, hexDig (n % 16).toNat]⟩ := by
  simp [hexS, hexTail]
/-- The conversion of the array's 16 bytes to a string. -/
theorem conv16 (w : World) (b0 b1 b2 b3 b4 b5 b6 b7 b8 b9 b10 b11 b12 b13 b14 b15 : UInt8) : (convert 81 9 (.slice (some ⟨w.heap.size, 0, none⟩) 16 16)).run Tryz.prog (w.alloc (.cells #[.int .u8 (b0.toNat : Int), .int .u8 (b1.toNat : Int), .int .u8 (b2.toNat : Int), .int .u8 (b3.toNat : Int), .int .u8 (b4.toNat : Int), .int .u8 (b5.toNat : Int), .int .u8 (b6.toNat : Int), .int .u8 (b7.toNat : Int), .int .u8 (b8.toNat : Int), .int .u8 (b9.toNat : Int), .int .u8 (b10.toNat : Int), .int .u8 (b11.toNat : Int), .int .u8 (b12.toNat : Int), .int .u8 (b13.toNat : Int), .int .u8 (b14.toNat : Int), .int .u8 (b15.toNat : Int)] 92)) =
    .ok (.string ⟨#[b0, b1, b2, b3, b4, b5, b6, b7, b8, b9, b10, b11, b12, b13, b14, b15]⟩) (w.alloc (.cells #[.int .u8 (b0.toNat : Int), .int .u8 (b1.toNat : Int), .int .u8 (b2.toNat : Int), .int .u8 (b3.toNat : Int), .int .u8 (b4.toNat : Int), .int .u8 (b5.toNat : Int), .int .u8 (b6.toNat : Int), .int .u8 (b7.toNat : Int), .int .u8 (b8.toNat : Int), .int .u8 (b9.toNat : Int), .int .u8 (b10.toNat : Int), .int .u8 (b11.toNat : Int), .int .u8 (b12.toNat : Int), .int .u8 (b13.toNat : Int), .int .u8 (b14.toNat : Int), .int .u8 (b15.toNat : Int)] 92)) := by
  refine run_convert_bytes_back (P := Tryz.prog) _ _ _ 5 ⟨w.heap.size, 0, none⟩ 16 [b0, b1, b2, b3, b4, b5, b6, b7, b8, b9, b10, b11, b12, b13, b14, b15] Tryz.underlying81 Tryz.underlying5 Tryz.underlying9 ?_
  intro j hj
  have : ∀ j : Nat, j < 16 → (w.alloc (.cells #[.int .u8 (b0.toNat : Int), .int .u8 (b1.toNat : Int), .int .u8 (b2.toNat : Int), .int .u8 (b3.toNat : Int), .int .u8 (b4.toNat : Int), .int .u8 (b5.toNat : Int), .int .u8 (b6.toNat : Int), .int .u8 (b7.toNat : Int), .int .u8 (b8.toNat : Int), .int .u8 (b9.toNat : Int), .int .u8 (b10.toNat : Int), .int .u8 (b11.toNat : Int), .int .u8 (b12.toNat : Int), .int .u8 (b13.toNat : Int), .int .u8 (b14.toNat : Int), .int .u8 (b15.toNat : Int)] 92)).cell? ⟨w.heap.size, j, none⟩ = some (.int .u8 ((([b0, b1, b2, b3, b4, b5, b6, b7, b8, b9, b10, b11, b12, b13, b14, b15] : List UInt8).getD j 0).toNat : Int)) := by
    intro j hj
    rcases j with _|_|_|_|_|_|_|_|_|_|_|_|_|_|_|_|j <;> first | omega | simp [go_sem]
  have h := this j (by simpa using hj)
  rw [List.getD_eq_getElem?_getD, List.getElem?_eq_getElem hj, Option.getD_some] at h
  rw [addr_add]
  exact h

set_option maxHeartbeats 1000000 in
theorem hex_any (n : Int) (w : World) (hd : DigOk w) :
    Calls Tryz.prog 69 #[.int .u64 n] w fun e w' => e = .returned (.string (hexS n)) ∧ Below w.heap.size w w' := by
  obtain ⟨hg, hc⟩ := hd.cells
  have a15 := and15
  have e16 := Lib.hid (hexS_lit n)
  have cv := conv16 w
  have q0 : 0 ≤ n % 16 := by omega
  have r0 : n % 16 < 16 := by omega
  have c0 := hc (n % 16).toNat (by omega)
  have q1 : 0 ≤ n / 16 % 16 := by omega
  have r1 : n / 16 % 16 < 16 := by omega
  have c1 := hc (n / 16 % 16).toNat (by omega)
  have q2 : 0 ≤ n / 256 % 16 := by omega
  have r2 : n / 256 % 16 < 16 := by omega
  have c2 := hc (n / 256 % 16).toNat (by omega)
  have q3 : 0 ≤ n / 4096 % 16 := by omega
  have r3 : n / 4096 % 16 < 16 := by omega
  have c3 := hc (n / 4096 % 16).toNat (by omega)
  have q4 : 0 ≤ n / 65536 % 16 := by omega
  have r4 : n / 65536 % 16 < 16 := by omega
  have c4 := hc (n / 65536 % 16).toNat (by omega)
  have q5 : 0 ≤ n / 1048576 % 16 := by omega
  have r5 : n / 1048576 % 16 < 16 := by omega
  have c5 := hc (n / 1048576 % 16).toNat (by omega)
  have q6 : 0 ≤ n / 16777216 % 16 := by omega
  have r6 : n / 16777216 % 16 < 16 := by omega
  have c6 := hc (n / 16777216 % 16).toNat (by omega)
  have q7 : 0 ≤ n / 268435456 % 16 := by omega
  have r7 : n / 268435456 % 16 < 16 := by omega
  have c7 := hc (n / 268435456 % 16).toNat (by omega)
  have q8 : 0 ≤ n / 4294967296 % 16 := by omega
  have r8 : n / 4294967296 % 16 < 16 := by omega
  have c8 := hc (n / 4294967296 % 16).toNat (by omega)
  have q9 : 0 ≤ n / 68719476736 % 16 := by omega
  have r9 : n / 68719476736 % 16 < 16 := by omega
  have c9 := hc (n / 68719476736 % 16).toNat (by omega)
  have q10 : 0 ≤ n / 1099511627776 % 16 := by omega
  have r10 : n / 1099511627776 % 16 < 16 := by omega
  have c10 := hc (n / 1099511627776 % 16).toNat (by omega)
  have q11 : 0 ≤ n / 17592186044416 % 16 := by omega
  have r11 : n / 17592186044416 % 16 < 16 := by omega
  have c11 := hc (n / 17592186044416 % 16).toNat (by omega)
  have q12 : 0 ≤ n / 281474976710656 % 16 := by omega
  have r12 : n / 281474976710656 % 16 < 16 := by omega
  have c12 := hc (n / 281474976710656 % 16).toNat (by omega)
  have q13 : 0 ≤ n / 4503599627370496 % 16 := by omega
  have r13 : n / 4503599627370496 % 16 < 16 := by omega
  have c13 := hc (n / 4503599627370496 % 16).toNat (by omega)
  have q14 : 0 ≤ n / 72057594037927936 % 16 := by omega
  have r14 : n / 72057594037927936 % 16 < 16 := by omega
  have c14 := hc (n / 72057594037927936 % 16).toNat (by omega)
  have q15 : 0 ≤ n / 1152921504606846976 % 16 := by omega
  have r15 : n / 1152921504606846976 % 16 < 16 := by omega
  have c15 := hc (n / 1152921504606846976 % 16).toNat (by omega)
  clear hc
  go_enter Tryz.func69, Tryz.ntmps69
  go_wp2
  refine wp_loop_rounds 17 ?_
  rw [rounds_succ]
  go_wp2
  clear c0 q0 r0
  rw [rounds_succ]
  go_wp2
  clear c1 q1 r1
  rw [rounds_succ]
  go_wp2
  clear c2 q2 r2
  rw [rounds_succ]
  go_wp2
  clear c3 q3 r3
  rw [rounds_succ]
  go_wp2
  clear c4 q4 r4
  rw [rounds_succ]
  go_wp2
  clear c5 q5 r5
  rw [rounds_succ]
  go_wp2
  clear c6 q6 r6
  rw [rounds_succ]
  go_wp2
  clear c7 q7 r7
  rw [rounds_succ]
  go_wp2
  clear c8 q8 r8
  rw [rounds_succ]
  go_wp2
  clear c9 q9 r9
  rw [rounds_succ]
  go_wp2
  clear c10 q10 r10
  rw [rounds_succ]
  go_wp2
  clear c11 q11 r11
  rw [rounds_succ]
  go_wp2
  clear c12 q12 r12
  rw [rounds_succ]
  go_wp2
  clear c13 q13 r13
  rw [rounds_succ]
  go_wp2
  clear c14 q14 r14
  rw [rounds_succ]
  go_wp2
  clear c15 q15 r15
  rw [rounds_succ]
  go_wp2
  go_ret
  exact ⟨congrArg (fun t => Ending.returned (.string t)) e16.out.symm, (Below.refl _ _).alloc (Nat.le_refl _) _⟩
end Go.Proofs.YthdpkfddmkijlaaGreatDoor

/- digest.Text, digest.Chain and their references compute textS. -/
namespace Go.Proofs.YthdpkfddmkijlaaGreatDoor
open Go.RowKit

theorem sumMix_range (z : Int) (_h0 : 0 ≤ z) (_h1 : z < 18446744073709551616) : 0 ≤ sumMix z ∧ sumMix z < 18446744073709551616 := by
  unfold sumMix
  generalize IntKind.u64.wrap _ = a
  generalize a / 8589934592 = b
  show 0 ≤ IntKind.u64.wrap _ ∧ IntKind.u64.wrap _ < _
  rw [IntKind.wrap_u64]
  omega
theorem sumS_range (s : ByteArray) : 0 ≤ sumS s ∧ sumS s < 18446744073709551616 := by
  unfold sumS sumMix
  generalize IntKind.u64.wrap _ = a
  generalize a / 8589934592 = b
  show 0 ≤ IntKind.u64.wrap _ ∧ IntKind.u64.wrap _ < _
  rw [IntKind.wrap_u64]
  omega
/-- The hexadecimal digest of a string. -/
def textS (s : ByteArray) : ByteArray := hexS (sumS s)
theorem textS_size (s : ByteArray) : (textS s).size = 16 := hexS_size _

set_option maxHeartbeats 400000 in
theorem text_any (s : ByteArray) (w : World) (hd : DigOk w) (hs : s.size ≤ 9223372036854775807) :
    Calls Tryz.prog 39 #[.string s] w fun e w' => e = .returned (.string (textS s)) ∧ Below w.heap.size w w' := by
  have HR := Lib.hid (sumS_range s)
  go_enter Tryz.func39, Tryz.ntmps39
  go_wp2_with (first | (go_at_call 70; refine (sum_any _ _ hs).mono ?_; rintro e w' ⟨rfl, rfl⟩) | (go_at_call 69; refine (hex_any _ _ hd).mono ?_; rintro e w' ⟨rfl, hb⟩))
  go_ret
  exact ⟨rfl, hb⟩

set_option maxHeartbeats 400000 in
theorem rtext_any (s : ByteArray) (w : World) (hs : s.size ≤ 9223372036854775807) :
    Calls Tryz.prog 59 #[.string s] w fun e w' => e = .returned (.string (textS s)) ∧ w = w' := by
  have HR := Lib.hid (sumS_range s)
  go_enter Tryz.func59, Tryz.ntmps59
  go_wp2_with (first | (go_at_call 91; refine (rsum_any _ _ hs).mono ?_; rintro e w' ⟨rfl, rfl⟩) | (go_at_call 90; refine (rhex_any _ _ HR.out.1 HR.out.2).mono ?_; rintro e w' ⟨rfl, rfl⟩))
  go_ret
  exact ⟨rfl, rfl⟩

/-- "|". -/
def barS : ByteArray := ⟨#[124]⟩
theorem bar_size (p s : ByteArray) (hp : p.size ≤ 1000000) (hs : s.size ≤ 1000000) : (p ++ ⟨#[124]⟩ ++ s).size ≤ 9223372036854775807 := by
  simp only [ByteArray.size_append]
  have : (⟨#[124]⟩ : ByteArray).size = 1 := rfl
  omega
def chainS (p s : ByteArray) : ByteArray := textS (p ++ barS ++ s)

set_option maxHeartbeats 400000 in
theorem chain_any (p s : ByteArray) (w : World) (hd : DigOk w) (hp : p.size ≤ 1000000) (hs : s.size ≤ 1000000) :
    Calls Tryz.prog 44 #[.string p, .string s] w fun e w' => e = .returned (.string (chainS p s)) ∧ Below w.heap.size w w' := by
  have HZ := Lib.hid (bar_size p s hp hs)
  go_enter Tryz.func44, Tryz.ntmps44
  go_wp2_with (go_at_call 39; refine (text_any _ _ hd HZ.out).mono ?_; rintro e w' ⟨rfl, hb⟩)
  go_ret
  exact ⟨rfl, hb⟩
set_option maxHeartbeats 400000 in
theorem rchain_any (p s : ByteArray) (w : World) (hp : p.size ≤ 1000000) (hs : s.size ≤ 1000000) :
    Calls Tryz.prog 60 #[.string p, .string s] w fun e w' => e = .returned (.string (chainS p s)) ∧ w = w' := by
  have HZ := Lib.hid (bar_size p s hp hs)
  go_enter Tryz.func60, Tryz.ntmps60
  go_wp2_with (go_at_call 59; refine (rtext_any _ _ HZ.out).mono ?_; rintro e w' ⟨rfl, rfl⟩)
  go_ret
  exact ⟨rfl, rfl⟩

/-- The salted digest behind k rounds. -/
def iterN (salt h : ByteArray) : Nat → ByteArray
  | 0 => h
  | k + 1 => textS (iterN salt h k ++ barS ++ salt)
def iterateS (salt s : ByteArray) (rounds : Int) : ByteArray := iterN salt (textS (salt ++ barS ++ s)) (min (max rounds 0) 64).toNat
theorem iterN_size (salt s : ByteArray) (k : Nat) : (iterN salt (textS s) k).size = 16 := by
  cases k <;> simp [iterN, textS_size]

attribute [irreducible] textS
end Go.Proofs.YthdpkfddmkijlaaGreatDoor

/- strings.Builder: copyCheck, WriteByte, WriteString at a builder that the call itself has made (the shelf's contracts do not lie over this translation, whose copyCheck ends in a refused statement). -/
namespace Go.Proofs.YthdpkfddmkijlaaGreatDoor
open Go.RowKit

theorem info_bld : (Tryz.prog.info? 96).map (fun i => i.size) = some 2 := by kernel_rfl
theorem info_byte : (Tryz.prog.info? 5).map (fun i => (i.zero, i.size, i.bytes)) = some (some (.int .u8 0), 1, 1) := by kernel_rfl
theorem lies_bld : liesAt Tryz.prog Tryz.prog.depth 96 (2 / Tryz.prog.cellsOf 96) 0 96 1 = true := by kernel_rfl

/-- A builder of the call's own. -/
def Bld (B b : Nat) (l : List UInt8) (w : World) : Prop := Lib.IsBuilder 96 5 B b (Lib.byteCells l) w
theorem Bld.fresh (w : World) : Bld w.heap.size w.heap.size [] (w.alloc (.cells #[.pointer none, .slice none 0 0] 96)) := Lib.fresh_isBuilder 96 5 w

set_option maxHeartbeats 1000000 in
set_option maxRecDepth 100000 in
theorem copyCheck_used (b : Nat) (w : World) (h0 : w.cell? ⟨b, 0, none⟩ = some (.pointer (some ⟨b, 0, none⟩))) :
    Calls Tryz.prog 110 #[.pointer (some ⟨b, 0, none⟩)] w fun e w' => e = .returned (.tuple #[]) ∧ w' = w := by
  obtain ⟨j, hj, _⟩ := Option.map_eq_some_iff.1 info_bld
  go_enter Tryz.func110, Tryz.ntmps110
  go_wp2
  rw [Lib.run_neq_ptr_same w _ Tryz.underlying94 hj]
  go_wp2
  go_end0
  exact ⟨rfl, rfl⟩

set_option maxHeartbeats 1000000 in
set_option maxRecDepth 100000 in
theorem copyCheck_fresh (b : Nat) (w : World) (h0 : w.cell? ⟨b, 0, none⟩ = some (.pointer none)) (hsh : w.shape? b = some (96, 2)) (hfz : w.frozen? ⟨b, 0, none⟩ = false) :
    Calls Tryz.prog 110 #[.pointer (some ⟨b, 0, none⟩)] w fun e w' => e = .returned (.tuple #[]) ∧ w' = w.setCell ⟨b, 0, none⟩ (.pointer (some ⟨b, 0, none⟩)) := by
  obtain ⟨j, hj, hjs⟩ := Option.map_eq_some_iff.1 info_bld
  go_enter Tryz.func110, Tryz.ntmps110
  go_wp2
  rw [Lib.run_to_unsafe w ⟨b, 0, none⟩ Tryz.underlying94 Tryz.underlying114 hj (by rw [hjs]; decide) hsh (Nat.zero_lt_succ 1)]
  simp only [Result.andThen]
  rw [Oper.upon_value]
  go_wp2
  rw [run_callFunc_extern Tryz.func123 (by kernel_rfl) (by kernel_rfl) (by kernel_rfl) (e := Extern.AbiNoEscape.same) (by kernel_rfl)]
  rw [Lib.run_noEscape]
  simp only [Result.andThen]
  rw [Oper.upon_value]
  go_wp2
  rw [Lib.run_from_unsafe w ⟨b, 0, none⟩ Tryz.underlying114 Tryz.underlying94 hj hsh lies_bld]
  simp only [Result.andThen]
  rw [Oper.upon_value]
  go_wp2
  go_end0
  exact ⟨rfl, rfl⟩

theorem copyCheck_any (B b : Nat) (bs : List Value) (w : World) (h : Lib.IsBuilder 96 5 B b bs w) :
    Calls Tryz.prog 110 #[.pointer (some ⟨b, 0, none⟩)] w fun e w' => e = .returned (.tuple #[]) ∧ (Lib.BuilderAt 96 5 B b (.pointer (some ⟨b, 0, none⟩)) bs w' ∧ Below B w w') := by
  rcases h with h | h
  · refine (copyCheck_fresh b w h.cell0 h.shape h.frozen0).mono ?_
    rintro e w' ⟨rfl, rfl⟩
    exact ⟨rfl, h.used _, (Below.refl B w).setCell (p := ⟨b, 0, none⟩) h.1 _⟩
  · refine (copyCheck_used b w h.cell0).mono ?_
    rintro e w' ⟨rfl, rfl⟩
    exact ⟨rfl, h, Below.refl B _⟩

set_option maxHeartbeats 2000000 in
set_option maxRecDepth 100000 in
theorem writeByte_val (B b : Nat) (bs : List Value) (c : Int) (w : World) (h : Lib.IsBuilder 96 5 B b bs w) (hlen : bs.length + 1 ≤ 140737488355328) (hBw : B ≤ w.heap.size) :
    Calls Tryz.prog 98 #[.pointer (some ⟨b, 0, none⟩), .int .u8 c] w fun e w' => e = .returned .nilIface ∧ (Lib.BuilderAt 96 5 B b (.pointer (some ⟨b, 0, none⟩)) (bs ++ [.int .u8 c]) w' ∧ Below B w w') := by
  obtain ⟨i0, hi, hz0, hz1, hz2⟩ := info_parts info_byte
  go_enter Tryz.func98, Tryz.ntmps98
  go_wp2_with (go_at_call 110; refine (copyCheck_any B b bs _ h).mono ?_)
  rintro e w1 ⟨rfl, h1, hb1⟩
  obtain ⟨hB, v, hbk, hown, hne⟩ := h1
  have c0 : w1.cell? ⟨b, 0, none⟩ = some (.pointer (some ⟨b, 0, none⟩)) := by rw [Lib.cell_of_heap hbk]; rfl
  have c1 : w1.cell? ⟨b, 1, none⟩ = some v := by rw [Lib.cell_of_heap hbk]; rfl
  go_wp2_with (at_builtin; refine wpList_append_own _ rfl _ _ 81 rfl B 5 i0 (.int .u8 0) 1 1 Tryz.underlying81 hi hz0 hz1 hz2 rfl (by decide) _ _ _ rfl (hown.alloc _) ⟨w1.heap.size, 0, none⟩ 1 1 [.int .u8 c] rfl rfl ?c1 ?c2 ?c3 ?c4 ?c5 ?_)
  case c1 =>
    intro j u hj
    match j, hj with
    | 0, hj => simp at hj; subst hj; simp [Addr.add]
  case c2 => intro u hu; simp at hu; subst hu; rfl
  case c3 => unfold maxLen; omega
  case c4 => omega
  case c5 => have := hb1.size; simp; omega
  intro v' w2 hown' hgrow _
  have hlt : b < w1.heap.size := by
    rcases Nat.lt_or_ge b w1.heap.size with h' | h'
    · exact h'
    · simp [Array.getElem?_eq_none h'] at hbk
  have hb2 : w2.heap[b]? = some (.cells #[.pointer (some ⟨b, 0, none⟩), v] 96 (0, 0)) := by
    rw [hgrow.block b (by simp; omega) (fun e => hne e.symm), Lib.alloc_old w1 _ b hlt]
    exact hbk
  have d0 : w2.cell? ⟨b, 0, none⟩ = some (.pointer (some ⟨b, 0, none⟩)) := by rw [Lib.cell_of_heap hb2]; rfl
  have d1 : w2.cell? ⟨b, 1, none⟩ = some v := by rw [Lib.cell_of_heap hb2]; rfl
  have f1 : w2.frozen? ⟨b, 1, none⟩ = false := Lib.frozen_of_heap hb2 1
  obtain ⟨g, cap, rfl⟩ : ∃ g cap, v' = .slice (some ⟨g, 0, none⟩) (bs.length + 1) cap := by
    rcases hown'.2 with ⟨_, h0⟩ | ⟨g, cap, cur, hv, _⟩
    · omega
    · exact ⟨g, cap, hv⟩
  go_wp2
  go_ret
  refine ⟨rfl, ?_, ?_⟩
  · exact Lib.BuilderAt.put (T := 96) (e := 5) hB hb2 (bs' := bs ++ [.int .u8 c]) (by simpa using hown') (by decide)
  · exact ((hb1.alloc (by have := hb1.size; omega) _).grown hgrow (by have := hb1.size; simp; omega) (fun k hk => (hown.lt k hk).1)).setCell (p := ⟨b, 1, none⟩) hB _

theorem byteCells_snoc (l : List UInt8) (c : UInt8) : Lib.byteCells l ++ [Value.int .u8 (c.toNat : Int)] = Lib.byteCells (l ++ [c]) := by simp [Lib.byteCells]
/-- WriteByte, in bytes. -/
theorem writeByte_any (B b : Nat) (l : List UInt8) (c : UInt8) (w : World) (h : Bld B b l w) (hlen : l.length + 1 ≤ 140737488355328) (hBw : B ≤ w.heap.size) :
    Calls Tryz.prog 98 #[.pointer (some ⟨b, 0, none⟩), .int .u8 (c.toNat : Int)] w fun e w' => e = .returned .nilIface ∧ (Bld B b (l ++ [c]) w' ∧ Below B w w') := by
  refine (writeByte_val B b (Lib.byteCells l) (c.toNat : Int) w h (by simpa [Lib.byteCells_length] using hlen) hBw).mono ?_
  rintro e w' ⟨he, h1, h2⟩
  exact ⟨he, .inr (by rw [byteCells_snoc] at h1; exact h1), h2⟩

set_option maxHeartbeats 2000000 in
set_option maxRecDepth 100000 in
theorem writeString_val (B b : Nat) (bs : List Value) (s : ByteArray) (w : World) (h : Lib.IsBuilder 96 5 B b bs w) (hlen : bs.length + s.size ≤ 140737488355328) (hBw : B ≤ w.heap.size) :
    Calls Tryz.prog 101 #[.pointer (some ⟨b, 0, none⟩), .string s] w fun e w' => e = .returned (.tuple #[.int .i64 s.size, .nilIface]) ∧ (Lib.BuilderAt 96 5 B b (.pointer (some ⟨b, 0, none⟩)) (bs ++ Lib.strCells s) w' ∧ Below B w w') := by
  obtain ⟨i0, hi, hz0, hz1, hz2⟩ := info_parts info_byte
  go_enter Tryz.func101, Tryz.ntmps101
  go_wp2_with (go_at_call 110; refine (copyCheck_any B b bs _ h).mono ?_)
  rintro e w1 ⟨rfl, h1, hb1⟩
  obtain ⟨hB, v, hbk, hown, hne⟩ := h1
  have c0 : w1.cell? ⟨b, 0, none⟩ = some (.pointer (some ⟨b, 0, none⟩)) := by rw [Lib.cell_of_heap hbk]; rfl
  have c1 : w1.cell? ⟨b, 1, none⟩ = some v := by rw [Lib.cell_of_heap hbk]; rfl
  go_wp2_with (at_builtin; refine Lib.wpList_append_own_string _ rfl _ _ 81 9 rfl B 5 i0 Tryz.underlying81 Tryz.underlying9 hi hz0 hz1 hz2 _ _ _ rfl hown s rfl ?c3 ?c4 ?c5 ?_)
  case c3 => unfold maxLen; omega
  case c4 => omega
  case c5 => have := hb1.size; omega
  intro v' w2 hown' hgrow _
  have hlt : b < w1.heap.size := by
    rcases Nat.lt_or_ge b w1.heap.size with h' | h'
    · exact h'
    · simp [Array.getElem?_eq_none h'] at hbk
  have hb2 : w2.heap[b]? = some (.cells #[.pointer (some ⟨b, 0, none⟩), v] 96 (0, 0)) := by
    rw [hgrow.block b hlt (fun e => hne e.symm)]
    exact hbk
  have d0 : w2.cell? ⟨b, 0, none⟩ = some (.pointer (some ⟨b, 0, none⟩)) := by rw [Lib.cell_of_heap hb2]; rfl
  have d1 : w2.cell? ⟨b, 1, none⟩ = some v := by rw [Lib.cell_of_heap hb2]; rfl
  have f1 : w2.frozen? ⟨b, 1, none⟩ = false := Lib.frozen_of_heap hb2 1
  obtain ⟨ao, n', cap, rfl⟩ : ∃ ao n' cap, v' = .slice ao n' cap := by
    rcases hown'.2 with ⟨hv, _⟩ | ⟨g, cap, cur, hv, _⟩
    · exact ⟨_, _, _, hv⟩
    · exact ⟨_, _, _, hv⟩
  go_wp2
  go_ret2
  refine ⟨rfl, ?_, ?_⟩
  · exact Lib.BuilderAt.put (T := 96) (e := 5) hB hb2 (bs' := bs ++ Lib.strCells s) (by simpa [Lib.strCells_length] using hown') (by decide)
  · exact (hb1.grown hgrow (by have := hb1.size; omega) (fun k hk => (hown.lt k hk).1)).setCell (p := ⟨b, 1, none⟩) hB _
/-- WriteString, in bytes. -/
theorem writeString_any (B b : Nat) (l : List UInt8) (s : ByteArray) (w : World) (h : Bld B b l w) (hlen : l.length + s.size ≤ 140737488355328) (hBw : B ≤ w.heap.size) :
    Calls Tryz.prog 101 #[.pointer (some ⟨b, 0, none⟩), .string s] w fun e w' => e = .returned (.tuple #[.int .i64 s.size, .nilIface]) ∧ (Bld B b (l ++ s.data.toList) w' ∧ Below B w w') := by
  refine (writeString_val B b (Lib.byteCells l) s w h (by simpa [Lib.byteCells_length] using hlen) hBw).mono ?_
  rintro e w' ⟨he, h1, h2⟩
  exact ⟨he, .inr (by have e : Lib.byteCells l ++ Lib.strCells s = Lib.byteCells (l ++ s.data.toList) := by simp [Lib.byteCells, Lib.strCells]
                      rw [e] at h1; exact h1), h2⟩
/-- String. -/
theorem bldString_any (B b : Nat) (l : List UInt8) (w : World) (h : Bld B b l w) (hBw : B ≤ w.heap.size) :
    Calls Tryz.prog 99 #[.pointer (some ⟨b, 0, none⟩)] w fun e w' => e = .returned (.string ⟨l.toArray⟩) ∧ Below B w w' :=
  Tryz.Builder_String_any B b l w h hBw
end Go.Proofs.YthdpkfddmkijlaaGreatDoor

/- Plain functions for the layer codec: base64 forms, on lists of bytes. No program in sight. -/
namespace Go.Proofs.YthdpkfddmkijlaaGreatDoor
open Go.RowKit

/-- The letter with a value below 64. -/
def b64Dig (d : Nat) : UInt8 := if d < 26 then UInt8.ofNat (65 + d) else if d < 52 then UInt8.ofNat (71 + d) else if d < 62 then UInt8.ofNat (d - 4) else if d = 62 then 45 else 95
/-- The value of a letter. -/
def b64Val (c : UInt8) : Option Nat := if 65 ≤ c.toNat ∧ c.toNat ≤ 90 then some (c.toNat - 65) else if 97 ≤ c.toNat ∧ c.toNat ≤ 122 then some (c.toNat - 71) else if 48 ≤ c.toNat ∧ c.toNat ≤ 57 then some (c.toNat + 4) else if c.toNat = 45 then some 62 else if c.toNat = 95 then some 63 else none
theorem b64Val_dig (d : Nat) (h : d < 64) : b64Val (b64Dig d) = some d := by
  have : ∀ d : Fin 64, b64Val (b64Dig d.1) = some d.1 := by decide +kernel
  exact this ⟨d, h⟩
theorem b64Dig_val {c : UInt8} {d : Nat} (h : b64Val c = some d) : b64Dig d = c ∧ d < 64 := by
  have : ∀ n : Fin 256, ∀ d, b64Val (UInt8.ofNat n.1) = some d → b64Dig d = UInt8.ofNat n.1 ∧ d < 64 := by
    intro n d hd
    have : ∀ n : Fin 256, (match b64Val (UInt8.ofNat n.1) with | none => true | some d => decide (b64Dig d = UInt8.ofNat n.1 ∧ d < 64)) = true := by decide +kernel
    have := this n
    rw [hd] at this
    simpa using this
  have h2 := this ⟨c.toNat, c.toNat_lt⟩ d
  simp at h2
  exact h2 h

/-- The form of what is left where n bits are held, of value x (n is 0, 2 or 4). -/
def b64E : List UInt8 → Nat → Nat → List UInt8
  | [], 0, _ => []
  | [], 2, x => [b64Dig (x * 16)]
  | [], _, x => [b64Dig (x * 4)]
  | c :: r, 0, _ => b64Dig (c.toNat / 4) :: b64E r 2 (c.toNat % 4)
  | c :: r, 2, x => b64Dig (x * 16 + c.toNat / 16) :: b64E r 4 (c.toNat % 16)
  | c :: r, _, x => b64Dig (x * 4 + c.toNat / 64) :: b64Dig (c.toNat % 64) :: b64E r 0 0
def b64L (l : List UInt8) : List UInt8 := b64E l 0 0
/-- The bytes of what is left of a form where n bits are held, of value x (n is 0, 2, 4 or 6); none where it is none. -/
def b64D : List UInt8 → Nat → Nat → Option (List UInt8)
  | [], n, x => if n < 6 ∧ x = 0 then some [] else none
  | c :: r, 0, x => (b64Val c).bind fun v => b64D r 6 (x * 64 + v)
  | c :: r, 2, x => (b64Val c).bind fun v => (b64D r 0 0).map fun t => UInt8.ofNat (x * 64 + v) :: t
  | c :: r, 4, x => (b64Val c).bind fun v => (b64D r 2 (v % 4)).map fun t => UInt8.ofNat (x * 16 + v / 4) :: t
  | c :: r, _, x => (b64Val c).bind fun v => (b64D r 4 (v % 16)).map fun t => UInt8.ofNat (x * 4 + v / 16) :: t
theorem b64_back3 (l : List UInt8) : b64D (b64E l 0 0) 0 0 = some l ∧ (∀ y x, y < 64 → x < 4 → b64D (b64E l 2 x) 6 y = some (UInt8.ofNat (y * 4 + x) :: l)) ∧ (∀ y x, y < 16 → x < 16 → b64D (b64E l 4 x) 4 y = some (UInt8.ofNat (y * 16 + x) :: l)) := by
  induction l with
  | nil =>
    refine ⟨by simp [b64E, b64D], fun y x hy hx => ?_, fun y x hy hx => ?_⟩
    · rw [b64E, b64D, b64Val_dig _ (by omega)]
      simp only [Option.bind_some]
      rw [show x * 16 % 16 = 0 by omega, show x * 16 / 16 = x by omega]
      simp [b64D]
      all_goals omega
    · rw [b64E, b64D, b64Val_dig _ (by omega)]
      simp only [Option.bind_some]
      rw [show x * 4 % 4 = 0 by omega, show x * 4 / 4 = x by omega]
      simp [b64D]
      all_goals omega
  | cons c r ih =>
    obtain ⟨h0, h2, h4⟩ := ih
    have hc := c.toNat_lt
    have e : UInt8.ofNat c.toNat = c := by simp
    refine ⟨?_, fun y x hy hx => ?_, fun y x hy hx => ?_⟩
    · rw [b64E, b64D, b64Val_dig _ (by omega)]
      simp only [Option.bind_some]
      rw [h2 _ _ (by omega) (by omega), show (0 * 64 + c.toNat / 4) * 4 + c.toNat % 4 = c.toNat by omega, e]
    · rw [b64E, b64D, b64Val_dig _ (by omega)]
      simp only [Option.bind_some]
      rw [show (x * 16 + c.toNat / 16) % 16 = c.toNat / 16 by omega, show (x * 16 + c.toNat / 16) / 16 = x by omega, h4 _ _ (by omega) (by omega), show c.toNat / 16 * 16 + c.toNat % 16 = c.toNat by omega, e]
      rfl
      all_goals omega
    · rw [b64E, b64D, b64Val_dig _ (by omega)]
      simp only [Option.bind_some]
      rw [show (x * 4 + c.toNat / 64) % 4 = c.toNat / 64 by omega, show (x * 4 + c.toNat / 64) / 4 = x by omega, b64D, b64Val_dig _ (by omega)]
      simp only [Option.bind_some]
      rw [show c.toNat / 64 * 64 + c.toNat % 64 = c.toNat by omega, e, h0]
      rfl
      all_goals omega
theorem b64_back (l : List UInt8) : b64D (b64L l) 0 0 = some l := (b64_back3 l).1
/-- What is read from a form has this form. -/
theorem b64_forth4 (t : List UInt8) : ∀ v, (b64D t 0 0 = some v → b64E v 0 0 = t) ∧ (∀ y, y < 64 → b64D t 6 y = some v → b64E v 0 0 = b64Dig y :: t) ∧ (∀ y x, y < 16 → x < 4 → b64D t 4 y = some v → b64E v 2 x = b64Dig (x * 16 + y) :: t) ∧ (∀ y x, y < 4 → x < 16 → b64D t 2 y = some v → b64E v 4 x = b64Dig (x * 4 + y) :: t) := by
  induction t with
  | nil =>
    intro v
    refine ⟨fun h => ?_, fun y hy h => ?_, fun y x hy hx h => ?_, fun y x hy hx h => ?_⟩
    · simp [b64D] at h; subst h; rfl
    · simp [b64D] at h
    · simp [b64D] at h; obtain ⟨rfl, rfl⟩ := h; simp [b64E]
    · simp [b64D] at h; obtain ⟨rfl, rfl⟩ := h; simp [b64E]
  | cons c r ih =>
    intro v
    refine ⟨fun h => ?_, fun y hy h => ?_, fun y x hy hx h => ?_, fun y x hy hx h => ?_⟩
    · rw [b64D] at h
      cases hc : b64Val c with
      | none => rw [hc] at h; cases h
      | some d =>
        rw [hc] at h
        simp only [Option.bind_some] at h
        obtain ⟨e, hd⟩ := b64Dig_val hc
        rw [show 0 * 64 + d = d by omega] at h
        rw [(ih v).2.1 d hd h, e]
    · rw [b64D] at h
      cases hc : b64Val c with
      | none => rw [hc] at h; cases h
      | some d =>
        rw [hc] at h
        simp only [Option.bind_some, Option.map_eq_some_iff] at h
        obtain ⟨e, hd⟩ := b64Dig_val hc
        obtain ⟨t, h1, rfl⟩ := h
        have eb : (UInt8.ofNat (y * 4 + d / 16)).toNat = y * 4 + d / 16 := by simp; omega
        rw [b64E, eb, (ih t).2.2.1 (d % 16) ((y * 4 + d / 16) % 4) (by omega) (by omega) h1, show (y * 4 + d / 16) / 4 = y by omega, show (y * 4 + d / 16) % 4 * 16 + d % 16 = d by omega, e]
      all_goals omega
    · rw [b64D] at h
      cases hc : b64Val c with
      | none => rw [hc] at h; cases h
      | some d =>
        rw [hc] at h
        simp only [Option.bind_some, Option.map_eq_some_iff] at h
        obtain ⟨e, hd⟩ := b64Dig_val hc
        obtain ⟨t, h1, rfl⟩ := h
        have eb : (UInt8.ofNat (y * 16 + d / 4)).toNat = y * 16 + d / 4 := by simp; omega
        rw [b64E, eb, (ih t).2.2.2 (d % 4) ((y * 16 + d / 4) % 16) (by omega) (by omega) h1, show (y * 16 + d / 4) / 16 = y by omega, show (y * 16 + d / 4) % 16 * 4 + d % 4 = d by omega, e]
    · rw [b64D] at h
      cases hc : b64Val c with
      | none => rw [hc] at h; cases h
      | some d =>
        rw [hc] at h
        simp only [Option.bind_some, Option.map_eq_some_iff] at h
        obtain ⟨e, hd⟩ := b64Dig_val hc
        obtain ⟨t, h1, rfl⟩ := h
        have eb : (UInt8.ofNat (y * 64 + d)).toNat = y * 64 + d := by simp; omega
        rw [b64E, eb, (ih t).1 h1, show (y * 64 + d) / 64 = y by omega, show (y * 64 + d) % 64 = d by omega, e]
        all_goals omega
theorem b64_forth (t v : List UInt8) (h : b64D t 0 0 = some v) : b64L v = t := (b64_forth4 t v).1 h
/-- The length of a form. -/
theorem b64E_length3 (l : List UInt8) : (∀ x, (b64E l 0 x).length = (4 * l.length + 2) / 3) ∧ (∀ x, (b64E l 2 x).length = (4 * l.length + 3) / 3) ∧ (∀ x, (b64E l 4 x).length = (4 * l.length + 4) / 3) := by
  induction l with
  | nil => simp [b64E]
  | cons c r ih =>
    obtain ⟨h0, h2, h4⟩ := ih
    refine ⟨fun x => ?_, fun x => ?_, fun x => ?_⟩
    · rw [b64E, List.length_cons, h2, List.length_cons]; omega
    · rw [b64E, List.length_cons, h4, List.length_cons]; omega
    · rw [b64E, List.length_cons, List.length_cons, h0, List.length_cons]; omega
      all_goals omega
theorem b64L_length (l : List UInt8) : (b64L l).length = (4 * l.length + 2) / 3 := (b64E_length3 l).1 0
/-- The base64 form of a string. -/
def b64S (s : ByteArray) : ByteArray := ⟨(b64L s.data.toList).toArray⟩
/-- The string with a base64 form. -/
def readB64O (s : ByteArray) : Option ByteArray := (b64D s.data.toList 0 0).map fun l => ⟨l.toArray⟩
theorem readB64_b64 (s : ByteArray) : readB64O (b64S s) = some s := by
  simp [readB64O, b64S, b64_back]
theorem b64_readB64 {t s : ByteArray} (h : readB64O t = some s) : b64S s = t := by
  simp only [readB64O, Option.map_eq_some_iff] at h
  obtain ⟨l, h, rfl⟩ := h
  have := b64_forth _ _ h
  apply ByteArray.ext
  simp [b64S, this]
theorem b64S_inj {s t : ByteArray} (h : b64S s = b64S t) : s = t := by
  have := readB64_b64 s
  rw [h, readB64_b64] at this
  exact (Option.some.inj this).symm
theorem b64S_size (s : ByteArray) : (b64S s).size = (4 * s.size + 2) / 3 := by
  show (b64L s.data.toList).toArray.size = _
  simp [b64L_length]
def readB64S (s : ByteArray) : ByteArray := (readB64O s).getD ByteArray.empty
def readB64Err (s : ByteArray) : Int := if (readB64O s).isSome then 0 else 4
end Go.Proofs.YthdpkfddmkijlaaGreatDoor

/- codec.Base64 computes b64S; codec.ReadBase64 reads it. -/
namespace Go.Proofs.YthdpkfddmkijlaaGreatDoor
open Go.RowKit

theorem wraps_i64 (n : Int) (h0 : 0 ≤ n) (h1 : n < 2 ^ 62) : IntKind.i64.wrap n = n := by rw [IntKind.wrap_i64]; omega
theorem i64_and63 (x : Int) (h0 : 0 ≤ x) (h1 : x < 1000000000000) : bits .and .i64 x 63 = x % 64 := bits_mask .i64 62 (by decide) wraps_i64 6 (by decide) x h0 (by omega)
theorem i64_and3 (x : Int) (h0 : 0 ≤ x) (h1 : x < 1000000000000) : bits .and .i64 x 3 = x % 4 := bits_mask .i64 62 (by decide) wraps_i64 2 (by decide) x h0 (by omega)
theorem i64_and15 (x : Int) (h0 : 0 ≤ x) (h1 : x < 1000000000000) : bits .and .i64 x 15 = x % 16 := bits_mask .i64 62 (by decide) wraps_i64 4 (by decide) x h0 (by omega)
theorem i64_and0 (x : Int) (h0 : 0 ≤ x) (h1 : x < 1000000000000) : bits .and .i64 x 0 = 0 := by
  have := bits_mask .i64 62 (by decide) wraps_i64 0 (by decide) x h0 (by omega)
  simpa using this
theorem wrap_small (c : Nat) (h : c < 1000000000000) : wrap64 (c : Int) = c := by unfold wrap64; omega
theorem or_byte (x : Int) (c : Nat) (h0 : 0 ≤ x) (hx : x < 1000000) (hc : c < 256) : bits .or .i64 (x * 256) (c : Int) = x * 256 + c := by
  exact bits_join .i64 62 (by decide) wraps_i64 8 (x * 256) (c : Int) (by omega) (by omega) (by omega) (by omega) (by omega) (by omega)
theorem or_six (x c : Int) (h0 : 0 ≤ x) (hx : x < 1000000) (hc0 : 0 ≤ c) (hc : c < 64) : bits .or .i64 (x * 64) c = x * 64 + c :=
  bits_join .i64 62 (by decide) wraps_i64 6 (x * 64) c (by omega) (by omega) (by omega) (by omega) (by omega) (by omega)
/-- The letters. -/
def b64Tab : ByteArray := ⟨#[65, 66, 67, 68, 69, 70, 71, 72, 73, 74, 75, 76, 77, 78, 79, 80, 81, 82, 83, 84, 85, 86, 87, 88, 89, 90, 97, 98, 99, 100, 101, 102, 103, 104, 105, 106, 107, 108, 109, 110, 111, 112, 113, 114, 115, 116, 117, 118, 119, 120, 121, 122, 48, 49, 50, 51, 52, 53, 54, 55, 56, 57, 45, 95]⟩
theorem b64Tab_at (d : Nat) (h : d < 64) : b64Tab.data.toList[d]? = some (b64Dig d) := by
  have : ∀ d : Fin 64, b64Tab.data.toList[d.1]? = some (b64Dig d.1) := by decide +kernel
  exact this ⟨d, h⟩

theorem b64Tab_el (d : Nat) (h : d < 64) (h' : d < b64Tab.size) : b64Tab[d] = b64Dig d := by
  have := b64Tab_at d h
  rw [List.getElem?_eq_getElem (by simpa using h')] at this
  exact Option.some.inj this
theorem drop_cons (s : ByteArray) (k : Nat) (h : k < s.size) : s.data.toList.drop k = s[k] :: s.data.toList.drop (k + 1) :=
  List.drop_eq_getElem_cons (by simpa using h)
theorem b64_step0 {s : ByteArray} {k c d y : Nat} {pre L : List UInt8} (hk : k < s.size) (hc : s[k].toNat = c) (hd : c / 4 = d) (hy : c % 4 = y) (HP : pre ++ b64E (s.data.toList.drop k) 0 0 = L) :
    (pre ++ [b64Dig d]) ++ b64E (s.data.toList.drop (k + 1)) 2 y = L := by
  rw [drop_cons s k hk, b64E, hc, hd, hy] at HP
  rw [← HP]; simp
theorem b64_step2 {s : ByteArray} {k c d y x : Nat} {pre L : List UInt8} (hk : k < s.size) (hc : s[k].toNat = c) (hd : x * 16 + c / 16 = d) (hy : c % 16 = y) (HP : pre ++ b64E (s.data.toList.drop k) 2 x = L) :
    (pre ++ [b64Dig d]) ++ b64E (s.data.toList.drop (k + 1)) 4 y = L := by
  rw [drop_cons s k hk, b64E, hc, hd, hy] at HP
  rw [← HP]; simp
theorem b64_step4 {s : ByteArray} {k c d y x : Nat} {pre L : List UInt8} (hk : k < s.size) (hc : s[k].toNat = c) (hd : x * 4 + c / 64 = d) (hy : c % 64 = y) (HP : pre ++ b64E (s.data.toList.drop k) 4 x = L) :
    (pre ++ [b64Dig d] ++ [b64Dig y]) ++ b64E (s.data.toList.drop (k + 1)) 0 0 = L := by
  rw [drop_cons s k hk, b64E, hc, hd, hy] at HP
  · rw [← HP]; simp
  all_goals omega
theorem b64_end0 {s : ByteArray} {k : Nat} {pre : List UInt8} (hk : ¬ k < s.size) (HP : pre ++ b64E (s.data.toList.drop k) 0 0 = b64L s.data.toList) : (⟨pre.toArray⟩ : ByteArray) = b64S s := by
  rw [List.drop_of_length_le (by simp; have : s.size = s.data.size := rfl; omega), b64E, List.append_nil] at HP
  rw [b64S, ← HP]
theorem b64_end2 {s : ByteArray} {k x d : Nat} {pre : List UInt8} (hk : ¬ k < s.size) (hd : x * 16 = d) (HP : pre ++ b64E (s.data.toList.drop k) 2 x = b64L s.data.toList) : (⟨(pre ++ [b64Dig d]).toArray⟩ : ByteArray) = b64S s := by
  rw [List.drop_of_length_le (by simp; have : s.size = s.data.size := rfl; omega), b64E, hd] at HP
  rw [b64S, ← HP]
theorem b64_end4 {s : ByteArray} {k x d : Nat} {pre : List UInt8} (hk : ¬ k < s.size) (hd : x * 4 = d) (HP : pre ++ b64E (s.data.toList.drop k) 4 x = b64L s.data.toList) : (⟨(pre ++ [b64Dig d]).toArray⟩ : ByteArray) = b64S s := by
  rw [List.drop_of_length_le (by simp; have : s.size = s.data.size := rfl; omega), b64E, hd] at HP
  · rw [b64S, ← HP]
  all_goals omega

end Go.Proofs.YthdpkfddmkijlaaGreatDoor

/- codec.ReadBase64 reads what b64S writes, and nothing else. -/
namespace Go.Proofs.YthdpkfddmkijlaaGreatDoor
open Go.RowKit

theorem b64_index (c : UInt8) : Lib.indexByte b64Tab.data.toList c = match b64Val c with | none => -1 | some v => (v : Int) := by
  have : ∀ n : Fin 256, Lib.indexByte b64Tab.data.toList (UInt8.ofNat n.1) = match b64Val (UInt8.ofNat n.1) with | none => -1 | some d => (d : Int) := by decide +kernel
  have h := this ⟨c.toNat, c.toNat_lt⟩
  simpa using h
/-- strings.IndexByte in the letters. -/
theorem index_letter (c : UInt8) (w : World) :
    Calls Tryz.prog 105 #[.string b64Tab, .int .u8 (c.toNat : Int)] w fun e w' => e = .returned (.int .i64 (match b64Val c with | none => -1 | some v => (v : Int))) ∧ w = w' := by
  refine (Tryz.strings_IndexByte b64Tab (c.toNat : Int) w).mono ?_
  rintro e w' ⟨rfl, rfl⟩
  refine ⟨ret_int ?_, rfl⟩
  rw [← b64_index]
  simp
theorem index_letter_none (c : UInt8) (w : World) (h : b64Val c = none) :
    Calls Tryz.prog 105 #[.string b64Tab, .int .u8 (c.toNat : Int)] w fun e w' => e = .returned (.int .i64 (-1)) ∧ w = w' := by
  have := index_letter c w; rw [h] at this; exact this
theorem index_letter_some (c : UInt8) (v : Nat) (w : World) (h : b64Val c = some v) :
    Calls Tryz.prog 105 #[.string b64Tab, .int .u8 (c.toNat : Int)] w fun e w' => e = .returned (.int .i64 (v : Int)) ∧ w = w' := by
  have := index_letter c w; rw [h] at this; exact this

theorem r64_none {s : ByteArray} {k N x : Nat} {c : UInt8} {pre : List UInt8} {L : Option (List UInt8)} (hk : k < s.size) (hc : s[k] = c) (hv : b64Val c = none) (HP : (b64D (s.data.toList.drop k) N x).map (pre ++ ·) = L) : L = none := by
  rw [drop_cons s k hk, hc] at HP
  rw [← HP]
  unfold b64D
  split <;> simp_all
theorem r64_step0 {s : ByteArray} {k v : Nat} {c : UInt8} {pre : List UInt8} {L : Option (List UInt8)} (hk : k < s.size) (hc : s[k] = c) (hv : b64Val c = some v) (HP : (b64D (s.data.toList.drop k) 0 0).map (pre ++ ·) = L) :
    (b64D (s.data.toList.drop (k + 1)) 6 v).map (pre ++ ·) = L := by
  rw [drop_cons s k hk, hc, b64D, hv] at HP
  simpa using HP
theorem r64_snoc {o : Option (List UInt8)} {pre : List UInt8} {q : UInt8} : (o.map fun t => q :: t).map (pre ++ ·) = o.map ((pre ++ [q]) ++ ·) := by
  cases o <;> simp
theorem r64_step2 {s : ByteArray} {k v x : Nat} {c q : UInt8} {pre : List UInt8} {L : Option (List UInt8)} (hk : k < s.size) (hc : s[k] = c) (hv : b64Val c = some v) (hq : UInt8.ofNat (x * 64 + v) = q) (HP : (b64D (s.data.toList.drop k) 2 x).map (pre ++ ·) = L) :
    (b64D (s.data.toList.drop (k + 1)) 0 0).map ((pre ++ [q]) ++ ·) = L := by
  rw [drop_cons s k hk, hc, b64D, hv, Option.bind_some, hq, r64_snoc] at HP
  exact HP
theorem r64_step4 {s : ByteArray} {k v x y : Nat} {c q : UInt8} {pre : List UInt8} {L : Option (List UInt8)} (hk : k < s.size) (hc : s[k] = c) (hv : b64Val c = some v) (hq : UInt8.ofNat (x * 16 + v / 4) = q) (hy : v % 4 = y) (HP : (b64D (s.data.toList.drop k) 4 x).map (pre ++ ·) = L) :
    (b64D (s.data.toList.drop (k + 1)) 2 y).map ((pre ++ [q]) ++ ·) = L := by
  rw [drop_cons s k hk, hc, b64D, hv, Option.bind_some, hq, hy, r64_snoc] at HP
  exact HP
theorem r64_step6 {s : ByteArray} {k v x y : Nat} {c q : UInt8} {pre : List UInt8} {L : Option (List UInt8)} (hk : k < s.size) (hc : s[k] = c) (hv : b64Val c = some v) (hq : UInt8.ofNat (x * 4 + v / 16) = q) (hy : v % 16 = y) (HP : (b64D (s.data.toList.drop k) 6 x).map (pre ++ ·) = L) :
    (b64D (s.data.toList.drop (k + 1)) 4 y).map ((pre ++ [q]) ++ ·) = L := by
  rw [drop_cons s k hk, hc, b64D, hv, Option.bind_some, hq, hy, r64_snoc] at HP
  · exact HP
  all_goals omega
theorem r64_end {s : ByteArray} {k N x : Nat} {pre : List UInt8} (hk : ¬ k < s.size) (HP : (b64D (s.data.toList.drop k) N x).map (pre ++ ·) = b64D s.data.toList 0 0) :
    readB64O s = if N < 6 ∧ x = 0 then some ⟨pre.toArray⟩ else none := by
  rw [List.drop_of_length_le (by simp; have : s.size = s.data.size := rfl; omega), b64D] at HP
  unfold readB64O
  rw [← HP]
  by_cases h : N < 6 ∧ x = 0 <;> simp [h]
theorem read_bad {s : ByteArray} (h : readB64O s = none) : readB64S s = ⟨#[]⟩ ∧ readB64Err s = 4 := by
  simp [readB64S, readB64Err, h]; rfl
theorem read_good {s t : ByteArray} (h : readB64O s = some t) : readB64S s = t ∧ readB64Err s = 0 := by
  simp [readB64S, readB64Err, h]
theorem ret_se {a b : ByteArray} {x y : Int} (h1 : a = b) (h2 : x = y) : Ending.returned (.tuple #[.string a, .int .i64 x]) = .returned (.tuple #[.string b, .int .i64 y]) := by rw [h1, h2]
theorem b64Val_lt {c : UInt8} {v : Nat} (h : b64Val c = some v) : v < 64 := (b64Dig_val h).2
theorem wrap_u8 (z : Nat) : IntKind.u8.wrap (z : Int) = ((UInt8.ofNat z).toNat : Int) := by
  rw [IntKind.wrap_u8]; simp

end Go.Proofs.YthdpkfddmkijlaaGreatDoor

/- identityref02.decimal. -/
namespace Go.Proofs.YthdpkfddmkijlaaGreatDoor
open Go.RowKit

def digC (c : UInt8) : Bool := decide (48 ≤ c.toNat ∧ c.toNat ≤ 57)
/-- A decimal form without sign. -/
def decL (l : List UInt8) (zero : Bool) : Bool := match l with
  | [] => false
  | c :: r => !(decide (c.toNat = 48) && (decide (r ≠ []) || !zero)) && (c :: r).all digC
theorem dig_all {s : ByteArray} {k : Nat} (h : k < s.size) (ha : (s.data.toList.take k).all digC = true) (hc : digC s[k] = true) : (s.data.toList.take (k + 1)).all digC = true := by
  have hl : k < s.data.toList.length := by simpa using h
  rw [List.take_succ_eq_append_getElem hl, List.all_append, ha, Bool.true_and, List.all_cons, List.all_nil, Bool.and_true]
  exact hc
theorem dig_bad {s : ByteArray} {k : Nat} (h : k < s.size) (hc : digC s[k] = false) : s.data.toList.all digC = false := by
  rw [List.all_eq_false]
  exact ⟨s[k], by rw [← Array.mem_def]; exact Array.getElem_mem _, by simp [hc]⟩
theorem decL_bad {l : List UInt8} {z : Bool} (h : l.all digC = false) : decL l z = false := by
  cases l with
  | nil => rfl
  | cons c r => rw [decL, h, Bool.and_false]
theorem decL_lead {s : ByteArray} {z : Bool} (h0 : 0 < s.size) (h48 : s[0].toNat = 48) (hz : 1 < s.size ∨ z = false) : decL s.data.toList z = false := by
  have hd := drop_cons s 0 h0
  rw [List.drop_zero] at hd
  rw [hd, decL]
  have e : (decide (s[0].toNat = 48) && (decide (s.data.toList.drop (0 + 1) ≠ []) || !z)) = true := by
    rw [decide_eq_true h48, Bool.true_and, Bool.or_eq_true]
    rcases hz with h | h
    · left
      rw [decide_eq_true_iff]
      intro e
      have := congrArg List.length e
      simp at this; omega
    · right; rw [h]; rfl
  rw [e]; rfl
theorem decL_good {s : ByteArray} {z : Bool} (h0 : 0 < s.size) (hl : s[0].toNat ≠ 48 ∨ (¬ 1 < s.size ∧ z = true)) (ha : s.data.toList.all digC = true) : decL s.data.toList z = true := by
  have hd := drop_cons s 0 h0
  rw [List.drop_zero] at hd
  rw [hd] at ha
  rw [hd, decL, ha, Bool.and_true, Bool.not_eq_true']
  rcases hl with h | ⟨h1, h2⟩
  · rw [decide_eq_false h, Bool.false_and]
  · have : s.data.toList.drop (0 + 1) = [] := List.drop_of_length_le (by simp; omega)
    rw [this, h2]; simp
set_option maxHeartbeats 1000000 in
theorem decimal_form (s : ByteArray) (z : Bool) (w : World) (hs : s.size ≤ 9223372036854775807) :
    Calls Tryz.prog 89 #[.string s, .bool z] w fun e w' => e = .returned (.bool (decL s.data.toList z)) ∧ w = w' := by
  go_enter Tryz.func89, Tryz.ntmps89
  by_cases h0 : s.size = 0
  · have HD : Hid (decL s.data.toList z = false) := by
      show _ = _
      have : s.data.toList = [] := List.eq_nil_of_length_eq_zero (by simpa using h0)
      rw [this]; rfl
    go_wp2_with fail
    go_ret
    exact ⟨ret_bool HD.out.symm, rfl⟩
  · have hpos : 0 < s.size := by omega
    have hb0 : ((s.size : Int) == 0) = false := by rw [beq_eq_false_iff_ne]; omega
    obtain ⟨c0, hc0⟩ : ∃ c0, s[0].toNat = c0 := ⟨_, rfl⟩
    have HC := Lib.hid hc0
    have hcs : (c0 = 48 ∧ (1 < s.size ∨ (¬ 1 < s.size ∧ z = false))) ∨ (c0 ≠ 48 ∨ (c0 = 48 ∧ ¬ 1 < s.size ∧ z = true)) := by
      by_cases h1 : c0 = 48
      · by_cases h2 : 1 < s.size
        · exact .inl ⟨h1, .inl h2⟩
        · cases z with
          | false => exact .inl ⟨h1, .inr ⟨h2, rfl⟩⟩
          | true => exact .inr (.inr ⟨h1, h2, rfl⟩)
      · exact .inr (.inl h1)
    clear h0
    rcases hcs with ⟨rfl, hz⟩ | hg
    · have HD : Hid (decL s.data.toList z = false) := Lib.hid (decL_lead hpos HC.out (hz.imp_right (·.2)))
      rcases hz with h | ⟨h, rfl⟩
      all_goals
        go_wp2_with fail
        go_ret
        exact ⟨ret_bool HD.out.symm, rfl⟩
    · have HG : Hid (s.data.toList.all digC = true → decL s.data.toList z = true) := Lib.hid (fun ha => decL_good hpos (by rw [HC.out]; exact hg.imp_right (·.2)) ha)
      have HBad : Hid (s.data.toList.all digC = false → decL s.data.toList z = false) := Lib.hid (fun ha => decL_bad ha)
      have hg2 : ((c0 : Int) == 48) = false ∨ (c0 = 48 ∧ ¬ 1 < s.size ∧ z = true) := hg.imp_left (fun h => by rw [beq_eq_false_iff_ne]; omega)
      clear hg
      rcases hg2 with h | ⟨rfl, h, rfl⟩
      all_goals
        go_wp2_with fail
        go_loop [5] (fun i => ∃ k : Nat, k ≤ s.size ∧ i = .int .i64 k ∧ Hid ((s.data.toList.take k).all digC = true)) (fun i => s.size - (intOf i).toNat)
        case atStart => exact ⟨0, Nat.zero_le _, rfl, Lib.hid (by simp)⟩
        case round =>
          clear hc0
          obtain ⟨k, hk, rfl, HA⟩ := hrel
          by_cases hlt : k < s.size
          · obtain ⟨c, hc⟩ : ∃ c, s[k].toNat = c := ⟨_, rfl⟩
            have HK := Lib.hid hc
            have hcs : c < 48 ∨ 57 < c ∨ (48 ≤ c ∧ c ≤ 57) := by omega
            rcases hcs with h1 | h1 | ⟨h1, h2⟩
            · have HD := Lib.hid (HBad.out (dig_bad hlt (by rw [digC, HK.out]; simp; omega)))
              go_wp2_with fail
              go_ret
              exact ⟨ret_bool HD.out.symm, rfl⟩
            · have HD := Lib.hid (HBad.out (dig_bad hlt (by rw [digC, HK.out]; simp; omega)))
              go_wp2_with fail
              go_ret
              exact ⟨ret_bool HD.out.symm, rfl⟩
            · have HD : Hid ((s.data.toList.take (k + 1)).all digC = true) := Lib.hid (dig_all hlt HA.out (by rw [digC, HK.out]; simp; omega))
              go_wp2_with fail
              go_round
              case rel => exact ⟨k + 1, hlt, by go_num, HD⟩
              case measure => simp [intOf]; omega
          · have HD := Lib.hid (HG.out (by have h := HA.out; rwa [List.take_of_length_le (by simp; omega)] at h))
            go_wp2_with fail
            go_ret
            exact ⟨ret_bool HD.out.symm, rfl⟩
end Go.Proofs.YthdpkfddmkijlaaGreatDoor

/- Decimal digits: plain laws. -/
namespace Go.Proofs.YthdpkfddmkijlaaGreatDoor
open Go.RowKit

/-- The value of decimal digits. -/
def valL (l : List UInt8) : Nat := l.foldl (fun n c => n * 10 + (c.toNat - 48)) 0
theorem valL_dec (u : Nat) : valL (Lib.decDigits u) = u := by
  induction u using Nat.strongRecOn with
  | _ u ih =>
    by_cases h : u < 10
    · rw [Lib.decDigits_one h]
      simp [valL]; omega
    · rw [Lib.decDigits, dif_neg h, valL, List.foldl_append, ← valL, ih (u / 10) (by omega)]
      simp; omega
theorem decDigits_digit (u : Nat) : ∀ c ∈ Lib.decDigits u, 48 ≤ c.toNat ∧ c.toNat ≤ 57 := by
  induction u using Nat.strongRecOn with
  | _ u ih =>
    by_cases h : u < 10
    · rw [Lib.decDigits_one h]
      intro c hc
      simp at hc; subst hc; simp; omega
    · rw [Lib.decDigits, dif_neg h]
      intro c hc
      rw [List.mem_append] at hc
      rcases hc with hc | hc
      · exact ih _ (by omega) c hc
      · simp at hc; subst hc; simp; omega
theorem itoa_cases (n : Int) : (∃ u : Nat, n = u ∧ Lib.itoa n = Lib.decDigits u) ∨ (∃ u : Nat, 1 ≤ u ∧ n = -(u : Int) ∧ Lib.itoa n = 45 :: Lib.decDigits u) := by
  by_cases h : 0 ≤ n
  · obtain ⟨u, rfl⟩ := Int.eq_ofNat_of_zero_le h
    exact .inl ⟨u, rfl, Lib.itoa_nonneg u⟩
  · refine .inr ⟨(-n).toNat, by omega, by omega, ?_⟩
    have e : n = -((-n).toNat : Int) := by omega
    conv => lhs; rw [e]
    exact Lib.itoa_neg _ (by omega)
theorem itoa_inj {n m : Int} (h : Lib.itoa n = Lib.itoa m) : n = m := by
  rcases itoa_cases n with ⟨u, rfl, hu⟩ | ⟨u, _, rfl, hu⟩ <;> rcases itoa_cases m with ⟨v, rfl, hv⟩ | ⟨v, _, rfl, hv⟩ <;> rw [hu, hv] at h
  · have := congrArg valL h
    rw [valL_dec, valL_dec] at this; rw [this]
  · have := decDigits_digit u 45 (by rw [h]; simp)
    have e : (45 : UInt8).toNat = 45 := rfl
    omega
  · have := decDigits_digit v 45 (by rw [← h]; simp)
    have e : (45 : UInt8).toNat = 45 := rfl
    omega
  · injection h with _ h
    have := congrArg valL h
    rw [valL_dec, valL_dec] at this; rw [this]
theorem itoa_nocolon (n : Int) : (58 : UInt8) ∉ Lib.itoa n := by
  intro hm
  have e : (58 : UInt8).toNat = 58 := rfl
  rcases itoa_cases n with ⟨u, rfl, hu⟩ | ⟨u, _, rfl, hu⟩ <;> rw [hu] at hm
  · have := decDigits_digit u _ hm; omega
  · rw [List.mem_cons] at hm
    rcases hm with hm | hm
    · cases hm
    · have := decDigits_digit u _ hm; omega
theorem split_first {a b x y : List UInt8} {c : UInt8} (ha : c ∉ a) (hb : c ∉ b) (h : a ++ c :: x = b ++ c :: y) : a = b ∧ x = y := by
  induction a generalizing b with
  | nil =>
    cases b with
    | nil => simp at h; exact ⟨rfl, h⟩
    | cons d b => simp at h; exact absurd (by rw [h.1]; simp) hb
  | cons d a ih =>
    cases b with
    | nil => simp at h; exact absurd (by rw [h.1]; simp) ha
    | cons e b =>
      simp at h
      have := ih (fun hm => ha (List.mem_cons_of_mem _ hm)) (fun hm => hb (List.mem_cons_of_mem _ hm)) h.2
      exact ⟨by rw [h.1, this.1], this.2⟩

theorem decDigits_ne (u : Nat) : Lib.decDigits u ≠ [] := by
  by_cases h : u < 10
  · rw [Lib.decDigits_one h]; simp
  · rw [Lib.decDigits, dif_neg h]; simp
/-- No leading nought. -/
theorem decDigits_lead (u : Nat) (h : 0 < u) : ∀ c, (Lib.decDigits u)[0]? = some c → c.toNat ≠ 48 := by
  induction u using Nat.strongRecOn with
  | _ u ih =>
    by_cases h10 : u < 10
    · rw [Lib.decDigits_one h10]
      intro c hc
      simp at hc; subst hc; simp; omega
    · rw [Lib.decDigits, dif_neg h10]
      intro c hc
      have hne := decDigits_ne (u / 10)
      rw [List.getElem?_append_left (by rw [List.length_pos_iff]; exact hne)] at hc
      exact ih (u / 10) (by omega) (by omega) c hc
theorem decDigits_len (k : Nat) : ∀ u, u < 10 ^ (k + 1) → (Lib.decDigits u).length ≤ k + 1 := by
  induction k with
  | zero => intro u h; rw [Lib.decDigits_one (by omega)]; simp
  | succ k ih =>
    intro u h
    by_cases h10 : u < 10
    · rw [Lib.decDigits_one h10]; simp
    · rw [Lib.decDigits, dif_neg h10, List.length_append]
      have := ih (u / 10) (by rw [Nat.pow_succ] at h; omega)
      simp; omega
theorem decDigits_len1 (u : Nat) (h : 10 ≤ u) : 2 ≤ (Lib.decDigits u).length := by
  rw [Lib.decDigits, dif_neg (by omega), List.length_append]
  have : 1 ≤ (Lib.decDigits (u / 10)).length := by
    have := decDigits_ne (u / 10)
    rw [← List.length_pos_iff] at this; omega
  simp; omega
/-- The value goes on from a. -/
def valF (a : Nat) (l : List UInt8) : Nat := l.foldl (fun n c => n * 10 + (c.toNat - 48)) a
theorem valL_eq (l : List UInt8) : valL l = valF 0 l := rfl
theorem valF_ge (l : List UInt8) : ∀ a, a ≤ valF a l := by
  induction l with
  | nil => intro a; exact Nat.le_refl _
  | cons c r ih => intro a; have := ih (a * 10 + (c.toNat - 48)); show a ≤ valF (a * 10 + (c.toNat - 48)) r; omega
theorem valF_append (a : Nat) (l m : List UInt8) : valF a (l ++ m) = valF (valF a l) m := by simp [valF, List.foldl_append]
end Go.Proofs.YthdpkfddmkijlaaGreatDoor

/- digest.Mac and its reference compute macS. -/
namespace Go.Proofs.YthdpkfddmkijlaaGreatDoor
open Go.RowKit

/-- The table of powers of ten is laid. -/
def PowOk (w : World) : Prop := (∃ g, Tryz.prog.globalNamed "internal/strconv.uint64pow10" = some g ∧ g < w.heap.size) ∧ Lib.TabIs Tryz.prog w "internal/strconv.uint64pow10" .u64 Lib.pow10Tab
theorem PowOk.below {w w' : World} (h : PowOk w) (hb : Below w.heap.size w w') : PowOk w' := by
  obtain ⟨⟨g, hg, hl⟩, ht⟩ := h
  exact ⟨⟨g, hg, Nat.lt_of_lt_of_le hl hb.size⟩, var?_below hb hg hl ht⟩
/-- The decimal form of a number, as a string. -/
def itoaS (n : Int) : ByteArray := ⟨(Lib.itoa n).toArray⟩
theorem itoaS_size (n : Int) (h0 : -9223372036854775808 ≤ n) (h1 : n ≤ 9223372036854775807) : (itoaS n).size ≤ 21 := by
  show (Lib.itoa n).toArray.size ≤ 21
  simpa using Lib.itoa_length_le n h0 h1
/-- strconv.Itoa. -/
theorem itoa_any (n : Int) (w : World) (h0 : -9223372036854775808 ≤ n) (h1 : n ≤ 9223372036854775807) (hp : PowOk w) :
    Calls Tryz.prog 78 #[.int .i64 n] w fun e w' => e = .returned (.string (itoaS n)) ∧ Below w.heap.size w w' :=
  (Tryz.strconv_Itoa n h0 h1 w hp.2).mono fun _ _ ⟨he, k, os, hw⟩ => ⟨he, by rw [hw]; exact Lib.below_grow _ _ (Nat.le_refl _) _ _⟩

theorem decDigits_piece (d : Nat) (h : d < 10) : (⟨#[48, 49, 50, 51, 52, 53, 54, 55, 56, 57]⟩ : ByteArray).extract d (d + 1) = ⟨(Lib.decDigits d).toArray⟩ := by
  have : ∀ d : Fin 10, (⟨#[48, 49, 50, 51, 52, 53, 54, 55, 56, 57]⟩ : ByteArray).extract d.1 (d.1 + 1) = ⟨#[UInt8.ofNat (48 + d.1)]⟩ := by decide +kernel
  rw [this ⟨d, h⟩, Lib.decDigits_one h]
def decS (n : Nat) : ByteArray := ⟨(Lib.decDigits n).toArray⟩
theorem decS_size (n : Nat) (h : n < 18446744073709551616) : (decS n).size ≤ 20 := by
  show (Lib.decDigits n).toArray.size ≤ 20
  have := Lib.nDigits_le20 n h
  simpa [Lib.decDigits_length] using this

def macP (key : ByteArray) : ByteArray := itoaS key.size ++ ⟨#[58]⟩ ++ key
def macS (key s : ByteArray) : ByteArray := textS (macP key ++ textS (macP key ++ s))
theorem itoaS_nat (n : Nat) : itoaS n = decS n := by unfold itoaS decS; rw [Lib.itoa_nonneg]
theorem macP_size (key : ByteArray) (h : key.size ≤ 1000000) : (macP key).size ≤ 1000022 := by
  have := itoaS_size key.size (by omega) (by omega)
  have h1 : (⟨#[58]⟩ : ByteArray).size = 1 := rfl
  simp only [macP, ByteArray.size_append]
  omega

theorem macP_size2 (key s : ByteArray) (h : key.size ≤ 1000000) (hs : s.size ≤ 1000000) : (macP key ++ s).size ≤ 9223372036854775807 := by
  have := macP_size key h
  simp only [ByteArray.size_append]
  omega

end Go.Proofs.YthdpkfddmkijlaaGreatDoor

/- identityref02.Int and codec.Int write the decimal form. -/
namespace Go.Proofs.YthdpkfddmkijlaaGreatDoor
open Go.RowKit

theorem cint_any (n : Int) (w : World) (h0 : -9223372036854775808 ≤ n) (h1 : n ≤ 9223372036854775807) (hp : PowOk w) :
    Calls Tryz.prog 48 #[.int .i64 n] w fun e w' => e = .returned (.string (itoaS n)) ∧ Below w.heap.size w w' := by
  have HI := Lib.hid (itoa_any n w h0 h1 hp)
  clear h0 h1
  go_enter Tryz.func48, Tryz.ntmps48
  go_wp2_with fail
  refine HI.out.mono ?_
  rintro e w1 ⟨rfl, hb1⟩
  go_wp2_with fail
  go_ret
  exact ⟨rfl, hb1⟩

/-- The digits of a number, none of 0. -/
def digP (v : Nat) : List UInt8 := if v = 0 then [] else Lib.decDigits v
theorem digP_step (v : Nat) (h : v ≠ 0) : digP v = digP (v / 10) ++ [UInt8.ofNat (48 + v % 10)] := by
  unfold digP
  rw [if_neg h]
  by_cases h10 : v < 10
  · rw [Lib.decDigits_one h10, if_pos (by omega), Nat.mod_eq_of_lt h10]; rfl
  · rw [if_neg (by omega)]
    conv => lhs; rw [Lib.decDigits, dif_neg h10]
theorem conv1 (w : World) (b : UInt8) : (convert 81 9 (.slice (some ⟨w.heap.size, 0, none⟩) 1 1)).run Tryz.prog (w.alloc (.cells #[.int .u8 (b.toNat : Int)] 5)) =
    .ok (.string ⟨#[b]⟩) (w.alloc (.cells #[.int .u8 (b.toNat : Int)] 5)) := by
  refine run_convert_bytes_back (w.alloc (.cells #[.int .u8 (b.toNat : Int)] 5)) 81 9 5 ⟨w.heap.size, 0, none⟩ 1 [b] Tryz.underlying81 Tryz.underlying5 Tryz.underlying9 (fun j hj => ?_)
  have : j = 0 := by simp at hj; omega
  subst this
  simp [go_sem, Addr.add]
theorem dig_byte (d : Nat) (_h : d < 10) : IntKind.u8.wrap (48 + (d : Int)) = ((UInt8.ofNat (48 + d)).toNat : Int) := by
  rw [IntKind.wrap_u8']; simp
theorem digP_one (v : Nat) (h : v ≠ 0) : (⟨(digP v).toArray⟩ : ByteArray) = decS v := by rw [digP, if_neg h]; rfl

theorem digP_len (u : Nat) (h : u ≤ 9223372036854775808) : (digP u).length ≤ 20 := by
  unfold digP
  split
  · simp
  · have := Lib.nDigits_le20 u (by omega)
    simpa [Lib.decDigits_length] using this
theorem app_one (q : UInt8) (t : List UInt8) : (⟨#[q]⟩ : ByteArray) ++ ⟨t.toArray⟩ = ⟨(q :: t).toArray⟩ := by
  apply ByteArray.ext
  simp [ByteArray.data_append]
set_option maxHeartbeats 2000000 in
theorem rint_any (n : Int) (w : World) (h0 : -9223372036854775808 ≤ n) (h1 : n ≤ 9223372036854775807) :
    Calls Tryz.prog 53 #[.int .i64 n] w fun e w' => e = .returned (.string (itoaS n)) ∧ Below w.heap.size w w' := by
  have hcs : n = 0 ∨ 0 < n ∨ n < 0 := by omega
  rcases hcs with rfl | hn | hn
  · clear h0 h1
    go_enter Tryz.func53, Tryz.ntmps53
    go_wp2_with fail
    go_ret
    exact ⟨ret_str (by decide +kernel), Below.refl _ _⟩
  · obtain ⟨u, rfl⟩ := Int.eq_ofNat_of_zero_le (show 0 ≤ n by omega)
    have hu : u ≠ 0 := by omega
    have HE : Hid (itoaS (u : Int) = ⟨(digP u).toArray⟩) := by show _ = _; rw [itoaS_nat, digP_one u hu]
    have hb0 : ((u : Int) == 0) = false := by rw [beq_eq_false_iff_ne]; omega
    have kc := fun (w : World) (b : UInt8) => conv1 w b
    clear h0 hu
    go_enter Tryz.func53, Tryz.ntmps53
    go_wp2_with fail
    go_loopw [3, 4, 5] (fun out m _ wr => ∃ (v : Nat) (t : List UInt8), v ≤ u ∧ m = .int .i64 (v : Int) ∧ out = .string ⟨t.toArray⟩ ∧ Hid (digP v ++ t = digP u) ∧ Below w.heap.size w wr) (fun _ m _ _ => (intOf m).toNat)
    case atStart => exact ⟨u, [], by omega, rfl, rfl, Lib.hid (by simp), Below.refl _ _⟩
    case round =>
      obtain ⟨v, t, hv, rfl, rfl, HT, hbr⟩ := hrel
      by_cases hv0 : v = 0
      · subst hv0
        go_wp2_with fail
        go_ret
        have hT := HT.out
        rw [show digP 0 = [] from rfl, List.nil_append] at hT
        exact ⟨ret_str (by rw [HE.out, hT]), hbr⟩
      · have hvb : ((v : Int) != 0) = true := by rw [bne_iff_ne]; omega
        obtain ⟨q, HQ⟩ : ∃ q, Hid (UInt8.ofNat (48 + v % 10) = q) := ⟨_, Lib.hid rfl⟩
        have hq : IntKind.u8.wrap (48 + (v : Int) % 10) = (q.toNat : Int) := by
          have := dig_byte (v % 10) (by omega)
          rw [HQ.out] at this
          rw [← this]; simp
        have HS : Hid (digP (v / 10) ++ (q :: t) = digP u) := by
          show _ = _
          rw [← HT.out, digP_step v hv0, HQ.out]; simp
        have hv1 : 0 < v := by omega
        have ht : t.length ≤ 20 := by
          have := congrArg List.length HT.out
          have h3 : (digP u).length ≤ 20 := digP_len u (by omega)
          simp at this; omega
        clear hv0
        go_wp2_with fail
        go_roundw
        case rel => exact ⟨v / 10, q :: t, by omega, by go_num, congrArg Value.string (app_one q t), Lib.hid HS.out, hbr.alloc hbr.size _⟩
        case measure => simp [intOf]; omega
  · obtain ⟨u, hu⟩ : ∃ u : Nat, n = -(u : Int) := ⟨(-n).toNat, by omega⟩
    subst hu
    have hu0 : u ≠ 0 := by omega
    have hul : u ≤ 9223372036854775808 := by omega
    have HE : Hid (itoaS (-(u : Int)) = ⟨#[45]⟩ ++ ⟨(digP u).toArray⟩) := by
      show _ = _
      rw [itoaS, Lib.itoa_neg u (by omega), digP, if_neg hu0]
      apply ByteArray.ext
      simp [ByteArray.data_append]
    have hb0 : (-(u : Int) == 0) = false := by rw [beq_eq_false_iff_ne]; omega
    have kc := fun (w : World) (b : UInt8) => conv1 w b
    clear h1 hu0
    go_enter Tryz.func53, Tryz.ntmps53
    go_wp2_with fail
    go_loopw [3, 4, 5] (fun out m _ wr => ∃ (v : Nat) (t : List UInt8), v ≤ u ∧ m = .int .i64 (-(v : Int)) ∧ out = .string ⟨t.toArray⟩ ∧ Hid (digP v ++ t = digP u) ∧ Below w.heap.size w wr) (fun _ m _ _ => (-(intOf m)).toNat)
    case atStart => exact ⟨u, [], by omega, rfl, rfl, Lib.hid (by simp), Below.refl _ _⟩
    case round =>
      obtain ⟨v, t, hv, rfl, rfl, HT, hbr⟩ := hrel
      have ht : t.length ≤ 20 := by
        have := congrArg List.length HT.out
        have h3 : (digP u).length ≤ 20 := digP_len u (by omega)
        simp at this; omega
      by_cases hv0 : v = 0
      · subst hv0
        have hT : Hid (t = digP u) := by
          have hT := HT.out
          rwa [show digP 0 = [] from rfl, List.nil_append] at hT
        go_wp2_with fail
        go_ret
        exact ⟨ret_str (by rw [HE.out, hT.out]), hbr⟩
      · have hvb : (-(v : Int) != 0) = true := by rw [bne_iff_ne]; omega
        obtain ⟨q, HQ⟩ : ∃ q, Hid (UInt8.ofNat (48 + v % 10) = q) := ⟨_, Lib.hid rfl⟩
        obtain ⟨d, HD⟩ : ∃ d, Hid (v % 10 = d) := ⟨_, Lib.hid rfl⟩
        have hd10 : d < 10 := by have := HD.out; omega
        have hq : IntKind.u8.wrap (48 + (d : Int)) = (q.toNat : Int) := by
          have := dig_byte (v % 10) (by omega)
          rw [HQ.out, HD.out] at this
          exact this
        have HS : Hid (digP (v / 10) ++ (q :: t) = digP u) := by
          show _ = _
          rw [← HT.out, digP_step v hv0, HQ.out]; simp
        have ed : (-(v : Int)).tmod 10 = -(d : Int) := by rw [Int.neg_tmod, Int.tmod_eq_emod_of_nonneg (by omega)]; have := HD.out; omega
        obtain ⟨z, HZ⟩ : ∃ z, Hid (v / 10 = z) := ⟨_, Lib.hid rfl⟩
        have ez : (-(v : Int)).tdiv 10 = -(z : Int) := by rw [Int.neg_tdiv, Int.tdiv_eq_ediv_of_nonneg (by omega)]; have := HZ.out; omega
        have hv1 : 0 < v := by omega
        have hzl : z ≤ v := by have := HZ.out; omega
        clear hv0
        have HR : Hid (digP z ++ (q :: t) = digP u) := by show _ = _; rw [← HZ.out]; exact HS.out
        have hzv : z < v := by have := HZ.out; omega
        by_cases hd0 : d = 0
        · subst hd0
          obtain rfl : q = 48 := by rw [← HQ.out, HD.out]; rfl
          have kc48 : ∀ w : World, (convert 81 9 (.slice (some ⟨w.heap.size, 0, none⟩) 1 1)).run Tryz.prog (w.alloc (.cells #[.int .u8 48] 5)) = .ok (.string ⟨#[48]⟩) (w.alloc (.cells #[.int .u8 48] 5)) := fun w => conv1 w 48
          clear ed
          have ed : (-(v : Int)).tmod 10 = 0 := by rw [Int.neg_tmod, Int.tmod_eq_emod_of_nonneg (by omega)]; have := HD.out; omega
          go_wp2_with fail
          go_roundw
          case rel => exact ⟨z, 48 :: t, by omega, rfl, congrArg Value.string (app_one 48 t), Lib.hid HR.out, hbr.alloc hbr.size _⟩
          case measure => simp [intOf]; omega
        · have hd1 : 0 < d := by omega
          clear hd0
          go_wp2_with fail
          go_roundw
          case rel => exact ⟨z, q :: t, by omega, rfl, congrArg Value.string (app_one q t), Lib.hid HR.out, hbr.alloc hbr.size _⟩
          case measure => simp [intOf]; omega
end Go.Proofs.YthdpkfddmkijlaaGreatDoor

/- Plain: the number with a decimal form. -/
namespace Go.Proofs.YthdpkfddmkijlaaGreatDoor
open Go.RowKit

/-- Whether a list of bytes is a decimal form, and its number. -/
def intForm (l : List UInt8) : Bool := match l with
  | [] => false
  | c :: r => if c = 45 then decL r false else decL (c :: r) true
def intVal (l : List UInt8) : Int := match l with
  | [] => 0
  | c :: r => if c = 45 then -(valL r : Int) else valL (c :: r)
def inInt (z : Int) : Prop := -9223372036854775808 ≤ z ∧ z ≤ 9223372036854775807
instance (z : Int) : Decidable (inInt z) := by unfold inInt; infer_instance
/-- What ReadInt gives: the number and the code. -/
def readIntP (s : ByteArray) : Int × Int :=
  if intForm s.data.toList = true then (if inInt (intVal s.data.toList) then (intVal s.data.toList, 0) else (0, 27)) else (0, 4)
theorem readInt_form {s : ByteArray} (h : intForm s.data.toList = false) : readIntP s = (0, 4) := by rw [readIntP, if_neg (by rw [h]; decide)]
theorem readInt_range {s : ByteArray} (h : intForm s.data.toList = true) (hr : ¬ inInt (intVal s.data.toList)) : readIntP s = (0, 27) := by rw [readIntP, if_pos h, if_neg hr]
theorem readInt_ok {s : ByteArray} (h : intForm s.data.toList = true) (hr : inInt (intVal s.data.toList)) : readIntP s = (intVal s.data.toList, 0) := by rw [readIntP, if_pos h, if_pos hr]
theorem decL_digits {l : List UInt8} {z : Bool} (h : decL l z = true) : l ≠ [] ∧ ∀ c ∈ l, 48 ≤ c.toNat ∧ c.toNat ≤ 57 := by
  cases l with
  | nil => cases h
  | cons c r =>
    rw [decL, Bool.and_eq_true] at h
    refine ⟨by simp, fun x hx => ?_⟩
    have := List.all_eq_true.1 h.2 x hx
    simpa [digC] using this
theorem parse10_all : ∀ (l : List UInt8) (a : Nat), (∀ c ∈ l, 48 ≤ c.toNat ∧ c.toNat ≤ 57) → a < 18446744073709551616 → Lib.parseUint10 a l = if valF a l < 18446744073709551616 then .ok (valF a l) else .range := by
  intro l
  induction l with
  | nil => intro a _ ha; rw [if_pos (show valF a [] < _ from ha)]; rfl
  | cons c r ih =>
    intro a hd ha
    have hc := hd c (by simp)
    have hge := valF_ge r (a * 10 + (c.toNat - 48))
    have hv : valF a (c :: r) = valF (a * 10 + (c.toNat - 48)) r := rfl
    rw [Lib.parseUint10, if_pos hc]
    by_cases h1 : 1844674407370955162 ≤ a
    · rw [if_pos h1, hv, if_neg (by omega)]
    · rw [if_neg h1]
      by_cases h2 : 18446744073709551616 ≤ a * 10 + (c.toNat - 48)
      · rw [if_pos h2, hv, if_neg (by omega)]
      · rw [if_neg h2, ih _ (fun x hx => hd x (List.mem_cons_of_mem _ hx)) (by omega), hv]
theorem parseMag_all {l : List UInt8} {z : Bool} (h : decL l z = true) : Lib.parseMag l = if valL l < 18446744073709551616 then .ok (valL l) else .range := by
  obtain ⟨h1, h2⟩ := decL_digits h
  rw [Lib.parseMag, if_neg h1, parse10_all l 0 h2 (by omega)]; rfl
/-- How strconv.Atoi ends at a decimal form. -/
theorem atoi_form {l : List UInt8} (h : intForm l = true) : Lib.atoiAll l = if inInt (intVal l) then .ok (intVal l) else .range := by
  cases l with
  | nil => cases h
  | cons c r =>
    unfold intForm at h
    have hI : intVal (c :: r) = if c = 45 then -(valL r : Int) else valL (c :: r) := rfl
    by_cases hc : c = 45
    · subst hc
      simp only [if_true] at h hI
      have hp := parseMag_all h
      rw [Lib.atoiAll_minus, hp, hI]
      by_cases hb : valL r < 18446744073709551616
      · rw [if_pos hb]
        by_cases h2 : 9223372036854775808 < valL r
        · simp only [Lib.signed, if_pos h2]; rw [if_neg (fun h : inInt _ => by unfold inInt at h; omega)]
        · simp only [Lib.signed, if_neg h2]; rw [if_pos (show inInt _ by unfold inInt; omega)]
      · rw [if_neg hb, if_neg (fun h : inInt _ => by unfold inInt at h; omega)]; rfl
    · simp only [if_neg hc] at h hI
      have hp := parseMag_all h
      have hd := (decL_digits h).2 c (by simp)
      rw [Lib.atoiAll_plain c r (by omega) (by omega), hp, hI]
      by_cases hb : valL (c :: r) < 18446744073709551616
      · rw [if_pos hb]
        by_cases h2 : 9223372036854775808 ≤ valL (c :: r)
        · simp only [Lib.signless, if_pos h2]; rw [if_neg (fun h : inInt _ => by unfold inInt at h; omega)]
        · simp only [Lib.signless, if_neg h2]; rw [if_pos (show inInt _ by unfold inInt; omega)]
      · rw [if_neg hb, if_neg (fun h : inInt _ => by unfold inInt at h; omega)]; rfl
/-- A form without sign is the form of its number. -/
theorem dec_val (n : Nat) : ∀ l : List UInt8, l.length = n + 1 → (∀ c ∈ l, 48 ≤ c.toNat ∧ c.toNat ≤ 57) → (n = 0 ∨ ∀ c, l[0]? = some c → c.toNat ≠ 48) → Lib.decDigits (valL l) = l := by
  induction n with
  | zero =>
    intro l hl hd _
    match l, hl with
    | [c], _ =>
      have hc := hd c (by simp)
      have e : valL [c] = c.toNat - 48 := by simp [valL]
      rw [e, Lib.decDigits_one (by omega)]
      congr 1
      apply UInt8.toNat_inj.1
      simp; omega
  | succ n ih =>
    intro l hl hd hlead
    have hne : l ≠ [] := by intro e; subst e; simp at hl
    obtain ⟨m, c, rfl⟩ : ∃ m c, l = m ++ [c] := ⟨l.dropLast, l.getLast hne, (List.dropLast_concat_getLast hne).symm⟩
    have hm : m.length = n + 1 := by simpa using hl
    have hlead2 : ∀ x, m[0]? = some x → x.toNat ≠ 48 := by
      intro x hx
      rcases hlead with h | h
      · omega
      · exact h x (by rw [List.getElem?_append_left (by omega)]; exact hx)
    have hi := ih m hm (fun x hx => hd x (by simp [hx])) (.inr hlead2)
    have hpos : valL m ≠ 0 := by
      intro e
      rw [e] at hi
      have : m = [48] := by rw [← hi]; decide +kernel
      subst this
      exact hlead2 48 rfl rfl
    have hc := hd c (by simp)
    have hv : valL (m ++ [c]) = valL m * 10 + (c.toNat - 48) := by simp [valL, List.foldl_append]
    rw [hv, Lib.decDigits, dif_neg (by omega), show (valL m * 10 + (c.toNat - 48)) / 10 = valL m by omega, hi, show (valL m * 10 + (c.toNat - 48)) % 10 = c.toNat - 48 by omega]
    congr 2
    apply UInt8.toNat_inj.1
    simp; omega
theorem decL_lead0 {l : List UInt8} {z : Bool} (h : decL l z = true) : l.length = 0 + 1 ∨ ∀ c, l[0]? = some c → c.toNat ≠ 48 := by
  cases l with
  | nil => cases h
  | cons c r =>
    rw [decL, Bool.and_eq_true, Bool.not_eq_true'] at h
    by_cases hr : r = []
    · left; rw [hr]; rfl
    · right
      intro x hx
      simp at hx; subst hx
      intro e
      have := h.1
      rw [decide_eq_true e, decide_eq_true hr] at this
      simp at this
theorem decL_dec {l : List UInt8} {z : Bool} (h : decL l z = true) : Lib.decDigits (valL l) = l := by
  obtain ⟨h1, h2⟩ := decL_digits h
  have hl : l.length = l.length - 1 + 1 := by
    have := List.length_pos_iff.2 h1; omega
  refine dec_val (l.length - 1) l hl h2 ?_
  rcases decL_lead0 h with h | h
  · left; omega
  · exact .inr h
/-- A form is the form of its number. -/
theorem form_itoa {l : List UInt8} (h : intForm l = true) : Lib.itoa (intVal l) = l := by
  cases l with
  | nil => cases h
  | cons c r =>
    unfold intForm at h
    have hI : intVal (c :: r) = if c = 45 then -(valL r : Int) else valL (c :: r) := rfl
    by_cases hc : c = 45
    · subst hc
      simp only [if_true] at h hI
      have hd := decL_dec h
      have hpos : 1 ≤ valL r := by
        cases r with
        | nil => cases h
        | cons x t =>
          rcases Nat.eq_zero_or_pos (valL (x :: t)) with e | e
          · exfalso
            rw [e] at hd
            have hx : [48] = x :: t := by rw [← hd]; decide +kernel
            injection hx with hx ht
            subst hx; subst ht
            exact absurd h (by decide)
          · exact e
      rw [hI, Lib.itoa_neg _ hpos, hd]
    · simp only [if_neg hc] at h hI
      rw [hI, Lib.itoa_nonneg, decL_dec h]
theorem dec_decL (u : Nat) : decL (Lib.decDigits u) true = true ∧ (0 < u → decL (Lib.decDigits u) false = true) := by
  have hd := decDigits_digit u
  have hne := decDigits_ne u
  have hlead := decDigits_lead u
  have hall : (Lib.decDigits u).all digC = true := by
    rw [List.all_eq_true]; intro c hc; simpa [digC] using hd c hc
  by_cases h0 : u = 0
  · subst h0
    exact ⟨by decide +kernel, fun h => absurd h (by omega)⟩
  · have hl := hlead (by omega)
    generalize Lib.decDigits u = l at *
    cases l with
    | nil => exact absurd rfl hne
    | cons c r =>
      have hc := hl c rfl
      constructor
      · rw [decL, hall, decide_eq_false hc]; rfl
      · intro _; rw [decL, hall, decide_eq_false hc]; rfl
theorem itoa_form (n : Int) : intForm (Lib.itoa n) = true ∧ intVal (Lib.itoa n) = n := by
  rcases itoa_cases n with ⟨u, rfl, hu⟩ | ⟨u, h1, rfl, hu⟩
  · rw [hu]
    have hd := (dec_decL u).1
    have hv := valL_dec u
    have hdig := decDigits_digit u
    generalize Lib.decDigits u = l at *
    cases l with
    | nil => cases hd
    | cons c r =>
      have hc := hdig c (by simp)
      have hne : ¬ c = 45 := by rintro rfl; exact absurd hc (by decide)
      exact ⟨by rw [intForm, if_neg hne]; exact hd, by rw [intVal, if_neg hne, hv]⟩
  · rw [hu]
    exact ⟨by rw [intForm, if_pos rfl]; exact (dec_decL u).2 (by omega), by rw [intVal, if_pos rfl, valL_dec]⟩
/-- What is written is read. -/
theorem readInt_itoa (n : Int) (h0 : -9223372036854775808 ≤ n) (h1 : n ≤ 9223372036854775807) : readIntP (itoaS n) = (n, 0) := by
  have e : (itoaS n).data.toList = Lib.itoa n := by simp [itoaS]
  obtain ⟨f1, f2⟩ := itoa_form n
  have := readInt_ok (s := itoaS n) (by rw [e]; exact f1) (by rw [e, f2]; exact ⟨h0, h1⟩)
  rw [this, e, f2]
/-- What is read was written so. -/
theorem itoa_readInt {s : ByteArray} (h : (readIntP s).2 = 0) : itoaS (readIntP s).1 = s := by
  unfold readIntP at h ⊢
  by_cases hf : intForm s.data.toList = true
  · rw [if_pos hf] at h ⊢
    by_cases hr : inInt (intVal s.data.toList)
    · rw [if_pos hr]
      apply ByteArray.ext
      have := form_itoa hf
      simp [itoaS, this]
    · rw [if_neg hr] at h; exact absurd h (by decide)
  · rw [if_neg hf] at h; exact absurd h (by decide)
end Go.Proofs.YthdpkfddmkijlaaGreatDoor

/- Plain functions for the layer codec: the escaped form. No program in sight. -/
namespace Go.Proofs.YthdpkfddmkijlaaGreatDoor
open Go.RowKit

/-- A byte that is written as it is. -/
def plainB (c : UInt8) : Bool := decide (33 ≤ c.toNat ∧ c.toNat ≤ 126 ∧ c.toNat ≠ 37 ∧ c.toNat ≠ 124 ∧ c.toNat ≠ 44 ∧ c.toNat ≠ 61 ∧ c.toNat ≠ 59 ∧ c.toNat ≠ 34)
/-- The digit with a value below 16. -/
def hexU (d : Nat) : UInt8 := if d < 10 then UInt8.ofNat (48 + d) else UInt8.ofNat (55 + d)
/-- The value of a digit. -/
def hexV (c : UInt8) : Option Nat := if 48 ≤ c.toNat ∧ c.toNat ≤ 57 then some (c.toNat - 48) else if 65 ≤ c.toNat ∧ c.toNat ≤ 70 then some (c.toNat - 55) else none
theorem hexV_dig (d : Nat) (h : d < 16) : hexV (hexU d) = some d := by
  have : ∀ d : Fin 16, hexV (hexU d.1) = some d.1 := by decide +kernel
  exact this ⟨d, h⟩
theorem hexU_val {c : UInt8} {d : Nat} (h : hexV c = some d) : hexU d = c ∧ d < 16 := by
  have : ∀ n : Fin 256, ∀ d, hexV (UInt8.ofNat n.1) = some d → hexU d = UInt8.ofNat n.1 ∧ d < 16 := by
    intro n d hd
    have : ∀ n : Fin 256, (match hexV (UInt8.ofNat n.1) with | none => true | some d => decide (hexU d = UInt8.ofNat n.1 ∧ d < 16)) = true := by decide +kernel
    have := this n
    rw [hd] at this
    simpa using this
  have h2 := this ⟨c.toNat, c.toNat_lt⟩ d
  simp at h2
  exact h2 h
theorem plainB_pct : plainB 37 = false := by decide
theorem hexU_plain (d : Nat) (h : d < 16) : plainB (hexU d) = true := by
  have : ∀ d : Fin 16, plainB (hexU d.1) = true := by decide +kernel
  exact this ⟨d, h⟩

/-- A byte, written. -/
def escC (c : UInt8) : List UInt8 := if plainB c then [c] else [37, hexU (c.toNat / 16), hexU (c.toNat % 16)]
def escL : List UInt8 → List UInt8
  | [] => []
  | c :: r => escC c ++ escL r
theorem escL_append (a b : List UInt8) : escL (a ++ b) = escL a ++ escL b := by
  induction a with
  | nil => rfl
  | cons c r ih => simp [escL, ih]
theorem escC_length (c : UInt8) : (escC c).length ≤ 3 := by unfold escC; split <;> simp
theorem escL_length (l : List UInt8) : (escL l).length ≤ 3 * l.length := by
  induction l with
  | nil => simp [escL]
  | cons c r ih => have := escC_length c; simp [escL]; omega
/-- The bytes of a form. State 0: between two bytes; 1: behind a sign of escape; n + 2: behind it and a digit of value n. -/
def unE : List UInt8 → Nat → Option (List UInt8)
  | [], 0 => some []
  | [], _ + 1 => none
  | c :: r, 0 => if plainB c then (unE r 0).map (c :: ·) else if c = 37 then unE r 1 else none
  | c :: r, 1 => (hexV c).bind fun a => unE r (a + 2)
  | c :: r, n + 2 => (hexV c).bind fun b => if plainB (UInt8.ofNat (n * 16 + b)) then none else (unE r 0).map (UInt8.ofNat (n * 16 + b) :: ·)
theorem unE_esc (l : List UInt8) : unE (escL l) 0 = some l := by
  induction l with
  | nil => rfl
  | cons c r ih =>
    have hc := c.toNat_lt
    have e : UInt8.ofNat (c.toNat / 16 * 16 + c.toNat % 16) = c := by
      rw [show c.toNat / 16 * 16 + c.toNat % 16 = c.toNat by omega]; simp
    rw [escL, escC]
    by_cases h : plainB c = true
    · rw [if_pos h]; simp [unE, h, ih]
    · rw [if_neg h]
      show unE (37 :: hexU (c.toNat / 16) :: hexU (c.toNat % 16) :: escL r) 0 = _
      rw [unE, if_neg (by rw [plainB_pct]; simp), if_pos rfl, unE, hexV_dig _ (by omega), Option.bind_some, unE, hexV_dig _ (by omega), Option.bind_some, e, if_neg h, ih]
      rfl
theorem esc_unE (t : List UInt8) : ∀ v, (unE t 0 = some v → escL v = t) ∧ (unE t 1 = some v → escL v = 37 :: t) ∧ (∀ a, a < 16 → unE t (a + 2) = some v → escL v = 37 :: hexU a :: t) := by
  induction t with
  | nil =>
    intro v
    refine ⟨fun h => ?_, fun h => ?_, fun a ha h => ?_⟩
    · simp [unE] at h; subst h; rfl
    · simp [unE] at h
    · simp [unE] at h
  | cons c r ih =>
    intro v
    refine ⟨fun h => ?_, fun h => ?_, fun a ha h => ?_⟩
    · rw [unE] at h
      split at h
      · rename_i hp
        rw [Option.map_eq_some_iff] at h
        obtain ⟨t, h1, rfl⟩ := h
        rw [escL, (ih t).1 h1, escC, if_pos hp]; rfl
      · split at h
        · rename_i h37; rw [(ih v).2.1 h, h37]
        · cases h
    · rw [unE] at h
      cases hc : hexV c with
      | none => rw [hc] at h; cases h
      | some d =>
        rw [hc, Option.bind_some] at h
        obtain ⟨e, hd⟩ := hexU_val hc
        rw [(ih v).2.2 d hd h, e]
    · rw [unE] at h
      cases hc : hexV c with
      | none => rw [hc] at h; cases h
      | some d =>
        rw [hc, Option.bind_some] at h
        obtain ⟨e, hd⟩ := hexU_val hc
        split at h
        · cases h
        · rename_i hp
          rw [Option.map_eq_some_iff] at h
          obtain ⟨t, h1, rfl⟩ := h
          have eb : (UInt8.ofNat (a * 16 + d)).toNat = a * 16 + d := by simp; omega
          rw [escL, (ih t).1 h1, escC, if_neg hp, eb, show (a * 16 + d) / 16 = a by omega, show (a * 16 + d) % 16 = d by omega, e]; rfl
theorem unE_forth {t v : List UInt8} (h : unE t 0 = some v) : escL v = t := (esc_unE t v).1 h
theorem unE_length (t : List UInt8) : ∀ n v, unE t n = some v → v.length ≤ t.length := by
  induction t with
  | nil => intro n v h; cases n with
    | zero => simp [unE] at h; subst h; simp
    | succ n => simp [unE] at h
  | cons c r ih =>
    intro n v h
    rcases n with _ | _ | n
    · rw [unE] at h
      split at h
      · rw [Option.map_eq_some_iff] at h
        obtain ⟨t, h1, rfl⟩ := h
        have := ih _ _ h1; simp; omega
      · split at h
        · have := ih _ _ h; simp; omega
        · cases h
    · rw [unE] at h
      cases hc : hexV c with
      | none => rw [hc] at h; cases h
      | some d => rw [hc, Option.bind_some] at h; have := ih _ _ h; simp; omega
    · rw [unE] at h
      cases hc : hexV c with
      | none => rw [hc] at h; cases h
      | some d =>
        rw [hc, Option.bind_some] at h
        split at h
        · cases h
        · rw [Option.map_eq_some_iff] at h
          obtain ⟨t, h1, rfl⟩ := h
          have := ih _ _ h1; simp; omega

/-- The same without the look at what a digit pair gives: what the reference reads before it compares. -/
def rawE : List UInt8 → Nat → Option (List UInt8)
  | [], 0 => some []
  | [], _ + 1 => none
  | c :: r, 0 => if c = 37 then rawE r 1 else (rawE r 0).map (c :: ·)
  | c :: r, 1 => (hexV c).bind fun a => rawE r (a + 2)
  | c :: r, n + 2 => (hexV c).bind fun b => (rawE r 0).map (UInt8.ofNat (n * 16 + b) :: ·)
theorem raw_of_unE (t : List UInt8) : ∀ n v, unE t n = some v → rawE t n = some v := by
  induction t with
  | nil => intro n v h; cases n with
    | zero => exact h
    | succ n => simp [unE] at h
  | cons c r ih =>
    intro n v h
    rcases n with _ | _ | n
    · rw [unE] at h
      rw [rawE]
      split at h
      · rename_i hp
        have h37 : c ≠ 37 := fun e => by rw [e] at hp; cases hp
        rw [if_neg h37]
        rw [Option.map_eq_some_iff] at h
        obtain ⟨t, h1, rfl⟩ := h
        rw [ih _ _ h1]; rfl
      · split at h
        · rename_i h37; rw [if_pos h37]; exact ih _ _ h
        · cases h
    · rw [unE] at h
      rw [rawE]
      cases hc : hexV c with
      | none => rw [hc] at h; cases h
      | some d => rw [hc, Option.bind_some] at h; exact ih _ _ h
    · rw [unE] at h
      rw [rawE]
      cases hc : hexV c with
      | none => rw [hc] at h; cases h
      | some d =>
        rw [hc, Option.bind_some] at h
        split at h
        · cases h
        · rw [Option.map_eq_some_iff] at h
          obtain ⟨t, h1, rfl⟩ := h
          show (rawE r 0).map _ = _
          rw [ih _ _ h1]; rfl
/-- The reference's way of reading gives the same. -/
theorem raw_same (t : List UInt8) : unE t 0 = (rawE t 0).bind fun v => if escL v = t then some v else none := by
  cases h : unE t 0 with
  | some v => rw [raw_of_unE _ _ _ h, Option.bind_some, if_pos (unE_forth h)]
  | none =>
    cases hr : rawE t 0 with
    | none => rfl
    | some v =>
      rw [Option.bind_some]
      by_cases he : escL v = t
      · have := unE_esc v
        rw [he, h] at this; cases this
      · rw [if_neg he]
/-- The escaped form of a string, and the string with an escaped form. -/
def escS (s : ByteArray) : ByteArray := ⟨(escL s.data.toList).toArray⟩
def unescO (s : ByteArray) : Option ByteArray := (unE s.data.toList 0).map fun l => ⟨l.toArray⟩
theorem unesc_esc (s : ByteArray) : unescO (escS s) = some s := by simp [unescO, escS, unE_esc]
theorem esc_unesc {t s : ByteArray} (h : unescO t = some s) : escS s = t := by
  simp only [unescO, Option.map_eq_some_iff] at h
  obtain ⟨l, h, rfl⟩ := h
  apply ByteArray.ext
  simp [escS, unE_forth h]
theorem escS_append (a b : ByteArray) : escS (a ++ b) = escS a ++ escS b := by
  apply ByteArray.ext
  simp [escS, ByteArray.data_append, escL_append]
theorem escS_inj {a b : ByteArray} (h : escS a = escS b) : a = b := by
  have := unesc_esc a
  rw [h, unesc_esc] at this
  exact (Option.some.inj this).symm
theorem escS_size (s : ByteArray) : (escS s).size ≤ 3 * s.size := by
  have := escL_length s.data.toList
  show (escL s.data.toList).toArray.size ≤ 3 * s.size
  simpa using this
theorem unescO_size {t s : ByteArray} (h : unescO t = some s) : s.size ≤ t.size := by
  simp only [unescO, Option.map_eq_some_iff] at h
  obtain ⟨l, h, rfl⟩ := h
  have := unE_length _ _ _ h
  show l.toArray.size ≤ t.size
  simpa using this
def unescS (s : ByteArray) : ByteArray := (unescO s).getD ByteArray.empty
def unescE (s : ByteArray) : Int := if (unescO s).isSome then 0 else 4
end Go.Proofs.YthdpkfddmkijlaaGreatDoor

