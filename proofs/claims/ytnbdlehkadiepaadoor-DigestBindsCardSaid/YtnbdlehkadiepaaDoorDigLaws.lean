/- Plain laws of the hash tree: the path of an element proves it; what is proved is the element, or two strings have one digest. -/
import Derived.Test.YtnbdlehkadiepaaDoorDigStrings
namespace Go.Proofs.YtnbdlehkadiepaaDoor
open Go.RowKit

theorem upL_at (l : List ByteArray) (k : Nat) (h : k < (upL l).length) : (upL l)[k] = upAt l k := by simp [upL]
theorem walk_path (f : Nat) : ∀ (lv : List ByteArray) (i : Nat) (hi : i < lv.length), lv.length ≤ f → walkF f lv[i] i lv.length (pathF f lv i) = some (rootF f lv) := by
  induction f with
  | zero => intro lv i hi hf; omega
  | succ f ih =>
    intro lv i hi hf
    by_cases hn : lv.length ≤ 1
    · have h1 : lv.length = 1 := by omega
      have hi0 : i = 0 := by omega
      subst hi0
      rw [walkF_end _ _ _ _ _ hn, pathF_end _ _ _ hn, if_pos rfl, rootF_end _ _ h1]
    · have hu : (upL lv).length = lv.length / 2 + lv.length % 2 := by rw [upL_length]; omega
      have hup : i / 2 < (upL lv).length := by omega
      have hrec := ih (upL lv) (i / 2) hup (by omega)
      rw [hu] at hrec
      rw [pathF, if_neg hn, rootF, if_neg hn, ← hrec, upL_at lv (i / 2) hup]
      rw [walkF.eq_def]
      simp only [if_neg hn]
      by_cases hodd : i % 2 = 1
      · obtain ⟨q, rfl⟩ : ∃ q, i = q + 1 := ⟨i - 1, by omega⟩
        rw [if_pos (Or.inl hodd), sibL_odd lv q (by omega) (by omega)]
        simp only [List.cons_append, List.nil_append, if_neg (show ¬ (q + 1) % 2 = 0 by omega)]
        have e : 2 * ((q + 1) / 2) = q := by omega
        rw [upAt, dif_pos (by omega)]
        simp only [e]
      · by_cases hs : i + 1 < lv.length
        · rw [if_pos (Or.inr hs), sibL_even lv i (by omega) hs]
          simp only [List.cons_append, List.nil_append, if_pos (show i % 2 = 0 by omega)]
          have e : 2 * (i / 2) = i := by omega
          rw [upAt, dif_pos (by omega)]
          simp only [e]
        · rw [if_neg (by omega), sibL_lone lv i (by omega) hs]
          have e : 2 * (i / 2) = i := by omega
          rw [List.nil_append, upAt, dif_neg (by omega), e, List.getD_eq_getElem?_getD, List.getElem?_eq_getElem hi, Option.getD_some]
theorem leavesL_at (l : List ByteArray) (i : Nat) (h : i < l.length) : (leavesL l)[i]'(by rw [leavesL_length]; exact h) = leafS l[i] := by simp [leavesL]
theorem proven (l : List ByteArray) (i : Nat) (h : i < l.length) : provesS (rootS l) l[i] (i : Int) (l.length : Int) (pathS l (i : Int)) = true := by
  have h1 : pathIn l (i : Int) = true := by simp [pathIn, h]
  have h2 : provesIn (i : Int) (l.length : Int) = true := by simp [provesIn, h]
  have h3 := walk_path l.length (leavesL l) i (by rw [leavesL_length]; exact h) (by rw [leavesL_length]; exact Nat.le_refl _)
  rw [leavesL_at l i h, leavesL_length] at h3
  rw [provesS, h2, Bool.true_and, pathS, h1, if_pos rfl, Int.toNat_natCast, Int.toNat_natCast, rootS, if_neg (by omega), h3]
  simp

/-- At some place the two lists have different strings with one digest. -/
def Collide (a b : List ByteArray) : Prop := ∃ (k : Nat) (x y : ByteArray), a[k]? = some x ∧ b[k]? = some y ∧ x ≠ y ∧ textS x = textS y
theorem Collide.cons {a b : List ByteArray} (x y : ByteArray) (h : Collide a b) : Collide (x :: a) (y :: b) := by
  obtain ⟨k, u, v, h1, h2, h3⟩ := h
  exact ⟨k + 1, u, v, by simpa using h1, by simpa using h2, h3⟩
theorem Collide.head {a b : List ByteArray} {x y : ByteArray} (h1 : x ≠ y) (h2 : textS x = textS y) : Collide (x :: a) (y :: b) := ⟨0, x, y, rfl, rfl, h1, h2⟩
theorem app_left {a b h h' : ByteArray} (hs : h.size = h'.size) (e : oneS ++ h ++ a = oneS ++ h' ++ b) : h = h' := by
  have e1 := congrArg (fun x : ByteArray => x.data.toList) e
  simp only [ByteArray.data_append, Array.toList_append, List.append_assoc] at e1
  have e2 := List.append_cancel_left e1
  have := List.append_inj_left e2 (by simpa using hs)
  exact ByteArray.ext (Array.toList_inj.1 this)
theorem app_right {a b h h' : ByteArray} (hs : h.size = h'.size) (e : oneS ++ a ++ h = oneS ++ b ++ h') : h = h' := by
  have e1 := congrArg (fun x : ByteArray => x.data.toList) e
  simp only [ByteArray.data_append, Array.toList_append, List.append_assoc] at e1
  have e2 := List.append_cancel_left e1
  have := List.append_inj_right' e2 (by simpa using hs)
  exact ByteArray.ext (Array.toList_inj.1 this)
theorem tails_collide (f : Nat) : ∀ (t t' : ByteArray) (i n : Nat) (p p' x x' : List ByteArray), tailF f (textS t) i n p = some (x, []) → tailF f (textS t') i n p' = some (x', []) →
    textS ((t :: x).getLast (by simp)) = textS ((t' :: x').getLast (by simp)) → x.length = x'.length ∧ (Collide (t :: x) (t' :: x') ∨ textS t = textS t') := by
  induction f with
  | zero =>
    intro t t' i n p p' x x' h1 h2 h3
    cases h1; cases h2
    exact ⟨rfl, Or.inr (by simpa using h3)⟩
  | succ f ih =>
    intro t t' i n p p' x x' h1 h2 h3
    by_cases hn : n ≤ 1
    · rw [tailF_end _ _ _ _ _ hn] at h1 h2
      cases h1; cases h2
      exact ⟨rfl, Or.inr (by simpa using h3)⟩
    · by_cases hs : i % 2 = 1 ∨ i + 1 < n
      · cases p with
        | nil => rw [tailF, if_neg hn, if_pos hs] at h1; cases h1
        | cons a r =>
          cases p' with
          | nil => rw [tailF, if_neg hn, if_pos hs] at h2; cases h2
          | cons a' r' =>
            rw [tailF, if_neg hn, if_pos hs] at h1 h2
            simp only [Option.map_eq_some_iff, Prod.mk.injEq] at h1 h2
            obtain ⟨y, hy, rfl, hy2⟩ := h1
            obtain ⟨y', hy', rfl, hy2'⟩ := h2
            obtain ⟨y1, y2⟩ := y
            obtain ⟨y1', y2'⟩ := y'
            simp only at hy2 hy2'
            subst hy2 hy2'
            have hsz : (textS t).size = (textS t').size := by rw [textS_size, textS_size]
            have h3' : textS (((if i % 2 = 1 then oneS ++ a ++ textS t else oneS ++ textS t ++ a) :: y1).getLast (by simp)) = textS (((if i % 2 = 1 then oneS ++ a' ++ textS t' else oneS ++ textS t' ++ a') :: y1').getLast (by simp)) := by
              simp only [List.getLast_cons_cons] at h3
              exact h3
            obtain ⟨hl, hc⟩ := ih _ _ _ _ _ _ _ _ hy hy' h3'
            refine ⟨by simp [hl], ?_⟩
            rcases hc with hc | hc
            · exact Or.inl (hc.cons _ _)
            · by_cases he : (if i % 2 = 1 then oneS ++ a ++ textS t else oneS ++ textS t ++ a) = (if i % 2 = 1 then oneS ++ a' ++ textS t' else oneS ++ textS t' ++ a')
              · right
                by_cases hi : i % 2 = 1
                · rw [if_pos hi, if_pos hi] at he; exact app_right hsz he
                · rw [if_neg hi, if_neg hi] at he; exact app_left hsz he
              · exact Or.inl ((Collide.head he hc).cons _ _)
      · rw [tailF.eq_def] at h1 h2
        simp only [if_neg hn, if_neg hs] at h1 h2
        exact ih _ _ _ _ _ _ _ _ h1 h2 h3
theorem proves_parts {root s : ByteArray} {i n : Int} {p : List ByteArray} (h : provesS root s i n p = true) : ∃ x, tailF n.toNat (leafS s) i.toNat n.toNat p = some (x, []) ∧ stringsO s i n p = some ((zeroS ++ s) :: x, []) ∧ textS (((zeroS ++ s) :: x).getLast (by simp)) = root := by
  rw [proves_strings] at h
  have hin : provesIn i n = true := by
    cases hin : provesIn i n with
    | true => rfl
    | false => simp [stringsO, hin] at h
  cases ht : tailF n.toNat (leafS s) i.toNat n.toNat p with
  | none => simp [stringsO, hin, ht] at h
  | some y =>
    have ho : stringsO s i n p = some ((zeroS ++ s) :: y.1, y.2) := by simp [stringsO, hin, ht]
    rw [ho] at h
    simp only [decide_eq_true_eq] at h
    obtain ⟨h1, h2⟩ := h
    obtain ⟨y1, y2⟩ := y
    simp only at h1
    subst h1
    refine ⟨y1, rfl, ho, ?_⟩
    rw [getLast_getD, ← h2, List.getLast?_cons]
    rfl
theorem app_zero {a b : ByteArray} (e : zeroS ++ a = zeroS ++ b) : a = b := by
  have e1 := congrArg (fun x : ByteArray => x.data.toList) e
  simp only [ByteArray.data_append, Array.toList_append] at e1
  have := List.append_cancel_left e1
  exact ByteArray.ext (Array.toList_inj.1 this)
/-- WHAT IS PROVED FOR A LIST's ROOT IS THE ELEMENT, or two strings on the way have one digest. -/
theorem binds (l : List ByteArray) (s : ByteArray) (i : Nat) (h : i < l.length) (p : List ByteArray) (hp : provesS (rootS l) s (i : Int) (l.length : Int) p = true) (hne : s ≠ l[i]) :
    ∃ a b, stringsO l[i] (i : Int) (l.length : Int) (pathS l (i : Int)) = some (a, []) ∧ stringsO s (i : Int) (l.length : Int) p = some (b, []) ∧ a.length = b.length ∧ Collide a b := by
  obtain ⟨x, t1, o1, r1⟩ := proves_parts (proven l i h)
  obtain ⟨y, t2, o2, r2⟩ := proves_parts hp
  obtain ⟨hl, hc⟩ := tails_collide _ (zeroS ++ l[i]) (zeroS ++ s) _ _ _ _ _ _ t1 t2 (r1.trans r2.symm)
  refine ⟨_, _, o1, o2, by simp [hl], ?_⟩
  rcases hc with hc | hc
  · exact hc
  · exact Collide.head (fun e => hne (app_zero e).symm) hc
theorem pathF_sizes (f : Nat) : ∀ (l : List ByteArray) (i : Nat), (∀ s ∈ l, s.size ≤ 1000000) → ∀ s ∈ pathF f l i, s.size ≤ 1000000 := by
  have he : ByteArray.empty.size ≤ 1000000 := by decide
  have hg : ∀ (l : List ByteArray) (k : Nat), (∀ s ∈ l, s.size ≤ 1000000) → (l.getD k ByteArray.empty).size ≤ 1000000 := by
    intro l k h
    rw [List.getD_eq_getElem?_getD]
    cases e : l[k]? with
    | none => exact he
    | some x => exact h x (List.mem_of_getElem? e)
  induction f with
  | zero => intro l i _ s hs; simp [pathF] at hs
  | succ f ih =>
    intro l i h s hs
    rw [pathF] at hs
    split at hs
    · simp at hs
    · rcases List.mem_append.1 hs with hs | hs
      · unfold sibL at hs
        split at hs
        · simp only [List.mem_singleton] at hs; subst hs; exact hg l _ h
        · split at hs
          · simp only [List.mem_singleton] at hs; subst hs; exact hg l _ h
          · simp at hs
      · exact ih (upL l) (i / 2) (upL_sizes l h) s hs
theorem pathS_sizes (l : List ByteArray) (i : Int) : ∀ s ∈ pathS l i, s.size ≤ 1000000 := by
  intro s hs
  unfold pathS at hs
  split at hs
  · exact pathF_sizes _ _ _ (leavesL_sizes l) s hs
  · simp at hs
end Go.Proofs.YtnbdlehkadiepaaDoor
