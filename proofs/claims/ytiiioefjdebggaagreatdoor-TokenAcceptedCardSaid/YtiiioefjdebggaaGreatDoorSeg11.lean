/- Joined: ClmWithin, ClmRet, ClmAct. -/
import Derived.Test.YtiiioefjdebggaaGreatDoorSeg5
import Derived.Test.YtiiioefjdebggaaGreatDoorSeg7
import Derived.Test.YtiiioefjdebggaaGreatDoorSeg4
import Derived.Test.YtiiioefjdebggaaGreatDoorSeg10
import Derived.Laws.OwnMore
/- claims.within, claims.common and the reference's among. -/
namespace Go.Proofs.YtiiioefjdebggaaGreatDoor
open Go.RowKit

theorem ret_vb {v : Value} {a b : Bool} (h : a = b) : Ending.returned (.tuple #[v, .bool a]) = .returned (.tuple #[v, .bool b]) := by rw [h]
theorem allIn_step {a b : List ByteArray} {k : Nat} (hk : k < a.length) (h : allIn (a.take k) b = true) (hm : memB b a[k] = true) : allIn (a.take (k + 1)) b = true := by
  rw [List.take_succ_eq_append_getElem hk, allIn, List.all_append, ← allIn, h]
  simp [hm]
theorem allIn_bad {a b : List ByteArray} {k : Nat} (hk : k < a.length) (hm : memB b a[k] = false) : allIn a b = false := by
  rw [Bool.eq_false_iff]
  intro h
  have := List.all_eq_true.1 h a[k] (List.getElem_mem hk)
  rw [hm] at this; cases this
theorem allIn_done {a b : List ByteArray} {k : Nat} (hk : ¬ k < a.length) (h : allIn (a.take k) b = true) : allIn a b = true := by
  rwa [List.take_of_length_le (by omega)] at h
theorem among_hit {a b : List ByteArray} {k : Nat} (hk : k < a.length) (hm : memB b a[k] = true) : amongL (a.take (k + 1)) b = amongL (a.take k) b ++ [a[k]] := by
  rw [List.take_succ_eq_append_getElem hk, amongL, List.filter_append, ← amongL]; simp [hm]
theorem among_miss {a b : List ByteArray} {k : Nat} (hk : k < a.length) (hm : memB b a[k] = false) : amongL (a.take (k + 1)) b = amongL (a.take k) b := by
  rw [List.take_succ_eq_append_getElem hk, amongL, List.filter_append, ← amongL]; simp [hm]
theorem among_done {a b : List ByteArray} {k : Nat} (hk : ¬ k < a.length) : amongL (a.take k) b = amongL a b := by rw [List.take_of_length_le (by omega)]
theorem among_le (a b : List ByteArray) (k : Nat) : (amongL (a.take k) b).length ≤ k := by
  have := among_len (a.take k) b
  rw [List.length_take] at this
  omega
end Go.Proofs.YtiiioefjdebggaaGreatDoor

/- What calls return that hand back claims. -/
namespace Go.Proofs.YtiiioefjdebggaaGreatDoor
open Go.RowKit

theorem Strs.lt {w : World} {A : Option Addr} {l : List ByteArray} (h : Strs w A l) (hn : l ≠ []) : ∀ q, A = some q → q.block < w.heap.size := by
  intro q hq
  have hl : 0 < l.length := by
    cases l with
    | nil => exact absurd rfl hn
    | cons x r => simp
  obtain ⟨b, o, e, hc⟩ := h 0 hl
  rw [hq] at e
  injection e with e
  subst e
  exact World.block_lt_of_cell? w _ hc
theorem Strs.setRow' {w : World} {A : Option Addr} {l : List ByteArray} (h : Strs w A l) {b : Nat} {cs : Array Value} (hb : ∀ q, A = some q → l ≠ [] → q.block ≠ b) : Strs (w.setRow b cs) A l := by
  by_cases hn : l = []
  · subst hn; exact Strs.nil_ _ _
  · exact h.setRow (fun q hq => hb q hq hn)
/-- Strings that a call leaves alone in a block. -/
structure StrsN (w : World) (A : Option Addr) (l : List ByteArray) (N : Nat → Prop) : Prop where
  s : Strs w A l
  n : ∀ q, A = some q → l ≠ [] → ¬ N q.block
theorem StrsN.below {w w' : World} {A : Option Addr} {l : List ByteArray} {N : Nat → Prop} (h : StrsN w A l N) (hb : Below w.heap.size w w') : StrsN w' A l N := ⟨h.s.below hb, h.n⟩
theorem StrsN.setCell {w : World} {A : Option Addr} {l : List ByteArray} {N : Nat → Prop} (h : StrsN w A l N) {b i : Nat} {v : Value} (hb : N b) : StrsN (w.setCell ⟨b, i, none⟩ v) A l N := ⟨h.s.setCell (fun q hq hn e => h.n q hq hn (e ▸ hb)), h.n⟩
theorem StrsN.setRow {w : World} {A : Option Addr} {l : List ByteArray} {N : Nat → Prop} (h : StrsN w A l N) {b : Nat} {cs : Array Value} (hb : N b) : StrsN (w.setRow b cs) A l N := ⟨h.s.setRow' (fun q hq hn e => h.n q hq hn (e ▸ hb)), h.n⟩
theorem OwnS.new {w : World} {B : Nat} {A : Option Addr} {l : List ByteArray} {c : Nat} (h : OwnS w B A l c) {N : Nat → Prop} (hN : ∀ i, N i → i < B) : StrsN w A l N := ⟨h.strs.1, fun q hq _ hn => by have := h.strs.2.2 q hq; have := hN _ hn; omega⟩
theorem Strs.old {w : World} {A : Option Addr} {l : List ByteArray} (h : Strs w A l) {N : Nat → Prop} (hN : ∀ i, N i → w.heap.size ≤ i) : StrsN w A l N := ⟨h, fun q hq hl hn => by have := h.lt hl q hq; have := hN _ hn; omega⟩
def Caps (c : Cl) (p : P3) : Prop := c.aud.length ≤ p.c1 ∧ c.sco.length ≤ p.c2 ∧ c.act.length ≤ p.c3
/-- What a call returns that hands back claims and a code. -/
def RetCl (w' : World) (e : Ending) (C : Cl) (E : Int) : Prop := ∃ p', e = .returned (.tuple #[clV C p', .int .i64 E]) ∧ ClAt w' C p' ∧ Caps C p'
theorem RetCl.zero (w' : World) {E G : Int} {C : Cl} (h : G = E ∧ C = cl0) : RetCl w' (.returned (.tuple #[clV cl0 p30, .int .i64 E])) C G := by
  obtain ⟨rfl, rfl⟩ := h
  exact ⟨p30, rfl, ⟨Strs.nil_ _ _, Strs.nil_ _ _, Strs.nil_ _ _⟩, Nat.le_refl _, Nat.le_refl _, Nat.le_refl _⟩
theorem nar0 {c : Cl} {sc au : List ByteArray} {e : Int} (h : checkE c ≠ 0) : narE c sc au e = checkE c ∧ narV c sc au e = cl0 := by
  have e1 : narE c sc au e = checkE c := by rw [narE, if_neg h]
  exact ⟨e1, by rw [narV, if_neg (by rw [e1]; exact h)]⟩
theorem nar1 {c : Cl} {sc au : List ByteArray} {e : Int} (h : checkE c = 0) (h1 : allIn sc c.sco = false) : narE c sc au e = 19 ∧ narV c sc au e = cl0 := by
  have e1 : narE c sc au e = 19 := by rw [narE, if_pos h, if_neg (by rw [h1]; decide)]
  exact ⟨e1, by rw [narV, if_neg (by rw [e1]; decide)]⟩
theorem nar2 {c : Cl} {sc au : List ByteArray} {e : Int} (h : checkE c = 0) (h1 : allIn sc c.sco = true) (h2 : au.length = 0 ∨ allIn au c.aud = false) : narE c sc au e = 15 ∧ narV c sc au e = cl0 := by
  have e1 : narE c sc au e = 15 := by
    rw [narE, if_pos h, if_pos h1, if_neg]
    rintro ⟨g1, g2⟩
    rcases h2 with h2 | h2
    · exact g1 h2
    · rw [h2] at g2; cases g2
  exact ⟨e1, by rw [narV, if_neg (by rw [e1]; decide)]⟩
theorem nar3 {c : Cl} {sc au : List ByteArray} {e : Int} (h : checkE c = 0) (h1 : allIn sc c.sco = true) (h2 : au.length ≠ 0) (h3 : allIn au c.aud = true) (h4 : c.exp < limT e ∨ limT e < c.issued ∨ limT e < c.nb) : narE c sc au e = 27 ∧ narV c sc au e = cl0 := by
  have e1 : narE c sc au e = 27 := by rw [narE, if_pos h, if_pos h1, if_pos ⟨h2, h3⟩, if_pos h4]
  exact ⟨e1, by rw [narV, if_neg (by rw [e1]; decide)]⟩
theorem nar4 {c : Cl} {sc au : List ByteArray} {e : Int} (h : checkE c = 0) (h1 : allIn sc c.sco = true) (h2 : au.length ≠ 0) (h3 : allIn au c.aud = true) (h4 : ¬ (c.exp < limT e ∨ limT e < c.issued ∨ limT e < c.nb)) : narE c sc au e = 0 ∧ narV c sc au e = narC c sc au e := by
  have e1 : narE c sc au e = 0 := by rw [narE, if_pos h, if_pos h1, if_pos ⟨h2, h3⟩, if_neg h4]
  exact ⟨e1, by rw [narV, if_pos e1]⟩
def withSco (c : Cl) (l : List ByteArray) : Cl := ⟨c.kind, c.issuer, c.subject, c.client, c.tenant, c.id, c.session, c.nonce, c.aud, l, c.act, c.issued, c.nb, c.exp, c.auth, c.level⟩
def withAud (c : Cl) (l : List ByteArray) : Cl := ⟨c.kind, c.issuer, c.subject, c.client, c.tenant, c.id, c.session, c.nonce, l, c.sco, c.act, c.issued, c.nb, c.exp, c.auth, c.level⟩
def withAct (c : Cl) (l : List ByteArray) : Cl := ⟨c.kind, c.issuer, c.subject, c.client, c.tenant, c.id, c.session, c.nonce, c.aud, c.sco, l, c.issued, c.nb, c.exp, c.auth, c.level⟩
def withExp (c : Cl) (e : Int) : Cl := ⟨c.kind, c.issuer, c.subject, c.client, c.tenant, c.id, c.session, c.nonce, c.aud, c.sco, c.act, c.issued, c.nb, e, c.auth, c.level⟩
theorem ClBox.sco {w : World} {b : Nat} {c : Cl} {p : P3} (h : ClBox w b c p) (l : List ByteArray) (A : Option Addr) (n : Nat) : ClBox (w.setCell ⟨b, 9, none⟩ (.slice A l.length n)) b (withSco c l) ⟨p.a1, p.c1, A, n, p.a3, p.c3⟩ := h.put _ _ rfl
theorem ClBox.aud {w : World} {b : Nat} {c : Cl} {p : P3} (h : ClBox w b c p) (l : List ByteArray) (A : Option Addr) (n : Nat) : ClBox (w.setCell ⟨b, 8, none⟩ (.slice A l.length n)) b (withAud c l) ⟨A, n, p.a2, p.c2, p.a3, p.c3⟩ := h.put _ _ rfl
theorem ClBox.act {w : World} {b : Nat} {c : Cl} {p : P3} (h : ClBox w b c p) (l : List ByteArray) (A : Option Addr) (n : Nat) : ClBox (w.setCell ⟨b, 10, none⟩ (.slice A l.length n)) b (withAct c l) ⟨p.a1, p.c1, p.a2, p.c2, A, n⟩ := h.put _ _ rfl
theorem ClBox.exp {w : World} {b : Nat} {c : Cl} {p : P3} (h : ClBox w b c p) (e : Int) : ClBox (w.setCell ⟨b, 13, none⟩ (.int .i64 e)) b (withExp c e) p := h.put _ _ rfl
theorem SmallL.of {c : Cl} (h : ClSmall c) : SmallL c := ⟨by have := h.l1; omega, by have := h.l2; omega, by have := h.l3; omega⟩
end Go.Proofs.YtiiioefjdebggaaGreatDoor

/- claims.Act and its reference. -/
namespace Go.Proofs.YtiiioefjdebggaaGreatDoor
open Go.RowKit

theorem act0 {c : Cl} {a : ByteArray} (h : checkE c ≠ 0) : actEr c a = checkE c ∧ actV c a = cl0 := by
  have e1 : actEr c a = checkE c := by rw [actEr, if_neg h]
  exact ⟨e1, by rw [actV, if_neg (by rw [e1]; exact h)]⟩
theorem act1 {c : Cl} {a : ByteArray} (h : checkE c = 0) (h1 : cleanS a = false) : actEr c a = 5 ∧ actV c a = cl0 := by
  have e1 : actEr c a = 5 := by rw [actEr, if_pos h, if_neg (by rw [h1]; decide)]
  exact ⟨e1, by rw [actV, if_neg (by rw [e1]; decide)]⟩
theorem act2 {c : Cl} {a : ByteArray} (h : checkE c = 0) (h1 : cleanS a = true) (h2 : a = c.subject ∨ memB c.act a = true) : actEr c a = 28 ∧ actV c a = cl0 := by
  have e1 : actEr c a = 28 := by rw [actEr, if_pos h, if_pos h1, if_pos h2]
  exact ⟨e1, by rw [actV, if_neg (by rw [e1]; decide)]⟩
theorem act3 {c : Cl} {a : ByteArray} (h : checkE c = 0) (h1 : cleanS a = true) (h2 : ¬ (a = c.subject ∨ memB c.act a = true)) (h3 : 4 ≤ c.act.length) : actEr c a = 3 ∧ actV c a = cl0 := by
  have e1 : actEr c a = 3 := by rw [actEr, if_pos h, if_pos h1, if_neg h2, if_pos h3]
  exact ⟨e1, by rw [actV, if_neg (by rw [e1]; decide)]⟩
theorem act4 {c : Cl} {a : ByteArray} (h : checkE c = 0) (h1 : cleanS a = true) (h2 : ¬ (a = c.subject ∨ memB c.act a = true)) (h3 : ¬ 4 ≤ c.act.length) : actEr c a = 0 ∧ actV c a = actC c a := by
  have e1 : actEr c a = 0 := by rw [actEr, if_pos h, if_pos h1, if_neg h2, if_neg h3]
  exact ⟨e1, by rw [actV, if_pos e1]⟩
theorem act_with (c : Cl) (a : ByteArray) : actC c a = withAct c (c.act ++ [a]) := rfl
theorem strs_src {w : World} {ad : Addr} {l : List ByteArray} (h : Strs w (some ad) l) : ∀ j u, (strVs l)[j]? = some u → w.cell? (ad.add j) = some u := by
  intro j u hu
  have hj : j < l.length := by
    have := (List.getElem?_eq_some_iff.1 hu).1
    simpa [strVs] using this
  obtain ⟨b, o, e, hc⟩ := h j hj
  injection e with e
  subst e
  rw [strVs_at l j hj] at hu
  have he : (⟨b, o, none⟩ : Addr).add j = ⟨b, o + j, none⟩ := by unfold Addr.add; split <;> simp_all
  rw [he, hc]; exact hu
theorem own_ne {w : World} {B : Nat} {A : Option Addr} {l : List ByteArray} {c i : Nat} (h : OwnS w B A l c) (hi : ∀ q, A = some q → q.block ≠ i) : (Value.slice A l.length c).ownBlock ≠ some i := by
  rcases h.2 with ⟨e, _⟩ | ⟨g, cap, cur, e, hg, hh, _⟩
  · rw [e]; simp [Value.ownBlock]
  · rw [e]
    injection e with e1 e2 e3
    intro h2
    have h3 : g = i := Option.some.inj h2
    exact hi _ e1 h3
theorem own_blk {w : World} {B : Nat} {A : Option Addr} {l : List ByteArray} {c : Nat} (h : OwnS w B A l c) : ∀ q, A = some q → (Value.slice A l.length c).ownBlock = some q.block := by
  intro q hq
  rcases h.2 with ⟨e, _⟩ | ⟨g, cap, cur, e, hg, hh, _⟩
  · subst hq; cases e
  · rw [e]
    injection e with e1 e2 e3
    rw [e1] at hq
    injection hq with hq
    subst hq
    rfl
theorem strs_heap {w w' : World} {A : Option Addr} {l : List ByteArray} (h : Strs w A l) (hh : ∀ q, A = some q → w'.heap[q.block]? = w.heap[q.block]?) : Strs w' A l := by
  intro j hj
  obtain ⟨g, o, e, hc⟩ := h j hj
  refine ⟨g, o, e, ?_⟩
  rw [← hc]
  exact World.cell?_of_block (show w'.heap[g]? = w.heap[g]? from hh ⟨g, o, none⟩ e)
theorem one_at25 (w : World) (v : Value) (t : TypeId) (n : Nat) (hn : w.heap.size = n) : ∀ j u, [v][j]? = some u → (w.alloc (.cells #[v] t)).cell? ((⟨n, 0, none⟩ : Addr).add j) = some u := by
  subst hn; exact cell_one_new w v t
theorem own_nil (w : World) (B : Nat) (hB : B ≤ w.heap.size) (e : TypeId) (size : Nat) : (w.alloc (.cells #[] e)).ownsRow B e size (.slice (some ⟨w.heap.size, 0, none⟩) 0 0) 0 [] :=
  ⟨by simp, .inr ⟨w.heap.size, 0, #[], rfl, hB, heap_alloc_new w _, Nat.le_refl _, Nat.zero_le _, by simp, by simp⟩⟩
end Go.Proofs.YtiiioefjdebggaaGreatDoor

