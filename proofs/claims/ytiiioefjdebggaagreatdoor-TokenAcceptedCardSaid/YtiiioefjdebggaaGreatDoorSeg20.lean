/- Joined: KeyRot0, KeyRot, TokRotP, KeySized. -/
import Derived.Test.YtiiioefjdebggaaGreatDoorSeg8
import Derived.Deep.AppendLies
import Derived.Deep.Onto
import Derived.Test.YtiiioefjdebggaaGreatDoorSeg1
import Derived.Test.YtiiioefjdebggaaGreatDoorSeg5
import Derived.Deep.RegionHeld3
import Derived.Deep.RegionLaw
import Derived.Test.YtiiioefjdebggaaGreatDoorSeg16
import Derived.SizedLaws
/- Keys in memory that the call owns; slices.Clone of keys. -/
namespace Go.Proofs.YtiiioefjdebggaaGreatDoor
open Go.RowKit

theorem info_ky : (Tryz.prog.info? 45).map (fun i => (i.zero, i.size, i.bytes)) = some (some (.agg #[.string ByteArray.empty, .string ByteArray.empty, .int .i64 0, .int .i64 0, .int .i64 0, .int .i64 0]), 6, 64) := by kernel_rfl
/-- The cells of keys. -/
def kysC (l : List Ky) : List Value := l.flatMap kyC
theorem kysC_len (l : List Ky) : (kysC l).length = l.length * 6 := by
  induction l with
  | nil => rfl
  | cons e l ih => rw [kysC, List.flatMap_cons, List.length_append, List.length_cons, show (l.flatMap kyC).length = (kysC l).length from rfl, ih]; simp [kyC]; omega
theorem kysC_app (l m : List Ky) : kysC l ++ kysC m = kysC (l ++ m) := by simp [kysC]
theorem kysC_one (l : List Ky) : ∀ u ∈ kysC l, u.oneCell' = true := by
  intro u hu
  rw [kysC, List.mem_flatMap] at hu
  obtain ⟨e, _, h⟩ := hu
  simp only [kyC, List.mem_cons, List.not_mem_nil, or_false] at h
  rcases h with rfl | rfl | rfl | rfl | rfl | rfl <;> rfl
theorem kysC_at (l : List Ky) : ∀ i j, (h : i < l.length) → j < 6 → (kysC l)[i * 6 + j]? = (kyC l[i])[j]? := by
  induction l with
  | nil => intro i j h; simp at h
  | cons e l ih =>
    intro i j h hj
    have e0 : kysC (e :: l) = kyC e ++ kysC l := by simp [kysC]
    have l6 : (kyC e).length = 6 := rfl
    cases i with
    | zero =>
      rw [e0, List.getElem?_append_left (by omega)]; simp
    | succ i =>
      rw [e0, List.getElem?_append_right (by omega), l6, show (i + 1) * 6 + j - 6 = i * 6 + j by omega, ih i j (by simpa using h) hj]; rfl
theorem KysAt.own {w : World} {base g n cap : Nat} {l : List Ky} (h : w.ownsRow base 45 6 (.slice (some ⟨g, 0, none⟩) n cap) n (kysC l)) (hn : n = l.length) : KysAt w (some ⟨g, 0, none⟩) l := by
  intro i hi
  have hc : ∀ j, j < 6 → w.cell? ⟨g, i * 6 + j, none⟩ = (kyC l[i])[j]? := fun j hj => by rw [h.cellAt (i * 6 + j) (by omega), kysC_at l i j hi hj]
  refine ⟨g, 0, rfl, ?_⟩
  rw [Nat.zero_add]
  exact ⟨hc 0 (by omega), hc 1 (by omega), hc 2 (by omega), hc 3 (by omega), hc 4 (by omega), hc 5 (by omega)⟩
theorem kys_row_at {w : World} {b o : Nat} {l : List Ky} (h : KysAt w (some ⟨b, o, none⟩) l) : ∀ j u, (kysC l)[j]? = some u → w.cell? ((⟨b, o, none⟩ : Addr).add j) = some u := by
  intro j u hu
  have hj : j < l.length * 6 := by
    have := (List.getElem?_eq_some_iff.1 hu).1
    rwa [kysC_len] at this
  obtain ⟨i, m, h6, rfl⟩ : ∃ i m, m < 6 ∧ j = i * 6 + m := ⟨j / 6, j % 6, by omega, by omega⟩
  have hi : i < l.length := by omega
  obtain ⟨b', o', e, h0, h1, h2, h3, h4, h5⟩ := h i hi
  injection e with e; injection e with e1 e2
  subst e1; subst e2
  rw [addr_add_off, ← hu, kysC_at l i m hi h6, ← Nat.add_assoc]
  match m, h6 with
  | 0, _ => exact h0
  | 1, _ => exact h1
  | 2, _ => exact h2
  | 3, _ => exact h3
  | 4, _ => exact h4
  | 5, _ => exact h5
/-- A slice that the call owns and that holds keys. -/
def OwnK (w : World) (B : Nat) (A : Option Addr) (l : List Ky) (c : Nat) : Prop := w.ownsRow B 45 6 (.slice A l.length c) l.length (kysC l)
theorem OwnK.kys {w : World} {B : Nat} {A : Option Addr} {l : List Ky} {c : Nat} (h : OwnK w B A l c) : KysAt w A l ∧ l.length ≤ c := by
  rcases h.2 with ⟨e, h0⟩ | ⟨g, cap, cur, e, hg, _, hnc, _⟩
  · have : l = [] := List.eq_nil_of_length_eq_zero h0
    subst this
    exact ⟨KysAt.nil _ _, Nat.zero_le _⟩
  · injection e with e1 e2 e3
    subst e1; subst e3
    exact ⟨KysAt.own h rfl, hnc⟩
theorem OwnK.form {w : World} {B n : Nat} {v : Value} {l : List Ky} (h : w.ownsRow B 45 6 v n (kysC l)) (hn : n = l.length) : ∃ A c, v = .slice A l.length c ∧ OwnK w B A l c := by
  subst hn
  rcases h.2 with ⟨rfl, h0⟩ | ⟨g, cap, cur, rfl, hg, _, hnc, _⟩
  · have e : l = [] := List.eq_nil_of_length_eq_zero h0
    subst e
    exact ⟨none, 0, rfl, h⟩
  · exact ⟨_, cap, rfl, h⟩
set_option maxHeartbeats 4000000 in
set_option maxRecDepth 100000 in
theorem kclone_any (l : List Ky) (A : Option Addr) (c : Nat) (w : World) (hS : KysAt w A l) (hl : l.length ≤ 1000000) :
    Calls Tryz.prog 79 #[.slice A l.length c] w fun e w' => (∃ A' c', e = .returned (.slice A' l.length c') ∧ OwnK w' w.heap.size A' l c') ∧ Below w.heap.size w w' := by
  obtain ⟨i0, hi, hz0, hz1, hz2⟩ := info_parts info_ky
  have HN := Lib.hid (kysC_len l)
  have HO := Lib.hid (kysC_one l)
  have q22 : ∀ (w : World) (a : Option Addr) (n c n' c' : Nat), (binOp .eql 22 (.slice a n c) (.slice none n' c')).run Tryz.prog w = .ok (.bool a.isNone) w := fun w a n c n' c' => Lib.run_eql_slice_nil w _ _ a n c n' c' Tryz.underlying22
  cases A with
  | none =>
    have e : l = [] := by
      cases l with
      | nil => rfl
      | cons x r => obtain ⟨b, o, e, _⟩ := hS 0 (by simp); cases e
    subst e
    go_enter Tryz.func79, Tryz.ntmps79
    go_wp2_with fail
    go_ret
    exact ⟨⟨none, 0, rfl, World.ownsRow_nil _ _ _ _⟩, Below.refl _ _⟩
  | some a =>
    have hrow : ∀ j u, (kysC l)[j]? = some u → (w.alloc (.cells #[] 45)).cell? (a.add j) = some u := by
      intro j u hu
      by_cases h0 : l.length = 0
      · have e : l = [] := List.eq_nil_of_length_eq_zero h0
        subst e
        simp [kysC] at hu
      · obtain ⟨b, o, e, _⟩ := hS 0 (by omega)
        injection e with e
        subst e
        exact Lib.cell?_alloc_some _ (kys_row_at hS j u hu)
    have HR := Lib.hid hrow
    clear hrow hS
    go_enter Tryz.func79, Tryz.ntmps79
    go_wp2_with (first
      | (at_builtin; refine wpList_append_own_at _ rfl _ _ 22 rfl w.heap.size 45 i0 _ 6 64 Tryz.underlying22 hi hz0 hz1 hz2 rfl (by decide) _ 0 [] rfl (World.ownsRow_made w #[] 0 (Nat.le_refl _) (Nat.zero_le _) rfl) a l.length c (kysC l) rfl HN.out HR.out HO.out (by unfold maxLen; omega) (by omega) (by simp) ?_; intro v2 w2 ho2 hg2 _ _; have HO2 := Lib.hid ho2; have HG2 := Lib.hid hg2; clear ho2 hg2)
      | fail)
    go_ret
    refine ⟨?_, ((Below.refl _ w).alloc (Nat.le_refl _) _).grown HG2.out (by simp) (fun k hk => by have e : w.heap.size = k := Option.some.inj hk; omega)⟩
    have h := HO2.out
    rw [Nat.zero_add, List.nil_append] at h
    obtain ⟨A', c', rfl, h'⟩ := OwnK.form h rfl
    exact ⟨A', c', rfl, h'⟩
end Go.Proofs.YtiiioefjdebggaaGreatDoor

/- keys.Rotate. -/
namespace Go.Proofs.YtiiioefjdebggaaGreatDoor
open Go.RowKit

/-- A key that signs no longer from m on. -/
def cutK (m : Int) (k : Ky) : Ky := ⟨k.id, k.sec, k.sf, max k.sf (min k.su m), k.af, k.au⟩
/-- keys.Rotate. -/
def rotE (l : List Ky) (id sec : ByteArray) (t life : Int) : Int :=
  if keysE l = 0 then (if wordS id = true then (if cleanS sec = true then (if hasK l id = true then 7 else (if limT (limT t + limT life) ≤ limT t then 2 else (if 16 ≤ l.length then 3 else 0))) else 4) else 5) else keysE l
def newK (id sec : ByteArray) (t life grace : Int) : Ky := ⟨id, sec, limT t, limT (limT t + limT life), limT t, limT (limT (limT t + limT life) + limT grace)⟩
def rotL (l : List Ky) (id sec : ByteArray) (t life grace : Int) : List Ky := l.map (cutK (limT t)) ++ [newK id sec t life grace]
theorem rot_keys {l : List Ky} {id sec : ByteArray} {t life : Int} (h : keysE l ≠ 0) : rotE l id sec t life = keysE l := by rw [rotE, if_neg h]
theorem rot_word {l : List Ky} {id sec : ByteArray} {t life : Int} (h : keysE l = 0) (h1 : wordS id = false) : rotE l id sec t life = 5 := by rw [rotE, if_pos h, if_neg (by rw [h1]; decide)]
theorem rot_clean {l : List Ky} {id sec : ByteArray} {t life : Int} (h : keysE l = 0) (h1 : wordS id = true) (h2 : cleanS sec = false) : rotE l id sec t life = 4 := by rw [rotE, if_pos h, if_pos h1, if_neg (by rw [h2]; decide)]
theorem rot_twice {l : List Ky} {id sec : ByteArray} {t life : Int} (h : keysE l = 0) (h1 : wordS id = true) (h2 : cleanS sec = true) (h3 : hasK l id = true) : rotE l id sec t life = 7 := by rw [rotE, if_pos h, if_pos h1, if_pos h2, if_pos h3]
theorem rot_arg {l : List Ky} {id sec : ByteArray} {t life : Int} (h : keysE l = 0) (h1 : wordS id = true) (h2 : cleanS sec = true) (h3 : hasK l id = false) (h4 : limT (limT t + limT life) ≤ limT t) : rotE l id sec t life = 2 := by rw [rotE, if_pos h, if_pos h1, if_pos h2, if_neg (by rw [h3]; decide), if_pos h4]
theorem rot_limit {l : List Ky} {id sec : ByteArray} {t life : Int} (h : keysE l = 0) (h1 : wordS id = true) (h2 : cleanS sec = true) (h3 : hasK l id = false) (h4 : ¬ limT (limT t + limT life) ≤ limT t) (h5 : 16 ≤ l.length) : rotE l id sec t life = 3 := by rw [rotE, if_pos h, if_pos h1, if_pos h2, if_neg (by rw [h3]; decide), if_neg h4, if_pos h5]
theorem rot_ok {l : List Ky} {id sec : ByteArray} {t life : Int} (h : keysE l = 0) (h1 : wordS id = true) (h2 : cleanS sec = true) (h3 : hasK l id = false) (h4 : ¬ limT (limT t + limT life) ≤ limT t) (h5 : ¬ 16 ≤ l.length) : rotE l id sec t life = 0 := by rw [rotE, if_pos h, if_pos h1, if_pos h2, if_neg (by rw [h3]; decide), if_neg h4, if_neg h5]
/-- The first k keys are cut. -/
def cutTo (m : Int) (l : List Ky) (k : Nat) : List Ky := (l.take k).map (cutK m) ++ l.drop k
theorem cutTo_zero (m : Int) (l : List Ky) : cutTo m l 0 = l := by simp [cutTo]
theorem cutTo_all (m : Int) (l : List Ky) : cutTo m l l.length = l.map (cutK m) := by simp [cutTo]
theorem cutTo_len (m : Int) (l : List Ky) (k : Nat) : (cutTo m l k).length = l.length := by
  rw [cutTo, List.length_append, List.length_map, ← List.length_append, List.take_append_drop]
theorem cutTo_get (m : Int) (l : List Ky) (k : Nat) (hk : k < l.length) : (cutTo m l k)[k]'(by rw [cutTo_len]; exact hk) = l[k] := by
  simp only [cutTo]
  rw [List.getElem_append_right (by rw [List.length_map, List.length_take]; omega)]
  simp only [List.length_map, List.length_take, List.getElem_drop]
  congr 1
  omega
theorem cutTo_set (m : Int) (l : List Ky) (k : Nat) (hk : k < l.length) : (kysC (cutTo m l k)).set (k * 6 + 3) (.int .i64 (max l[k].sf (min l[k].su m))) = kysC (cutTo m l (k + 1)) := by
  have e1 : cutTo m l k = (l.take k).map (cutK m) ++ (l[k] :: l.drop (k + 1)) := by rw [cutTo, List.drop_eq_getElem_cons hk]
  have e2 : cutTo m l (k + 1) = (l.take k).map (cutK m) ++ (cutK m l[k] :: l.drop (k + 1)) := by
    rw [cutTo, List.take_succ_eq_append_getElem hk, List.map_append]
    simp
  have hz : (kysC ((l.take k).map (cutK m))).length = k * 6 := by rw [kysC_len, List.length_map, List.length_take, Nat.min_eq_left (by omega)]
  rw [e1, e2, ← kysC_app, ← kysC_app, List.set_append, hz, if_neg (by omega), show k * 6 + 3 - k * 6 = 3 by omega]
  rfl
theorem findI_sign (l : List Ky) (id : ByteArray) : (hasK l id = true → 0 ≤ findI l id) ∧ (hasK l id = false → findI l id = -1) := by
  rcases findI_cases l id with ⟨h1, h2, _⟩ | ⟨i, _, h1, h2, _⟩
  · exact ⟨(fun h => by rw [h2] at h; cases h), fun _ => h1⟩
  · exact ⟨(fun _ => by omega), (fun h => by rw [h2] at h; cases h)⟩
theorem kyc_one (x : Ky) : ∀ u ∈ kyC x, u.oneCell' = true := by
  have h := kysC_one [x]
  simpa [kysC] using h
theorem kyc_new (w : World) (x : Ky) : ∀ j u, (kyC x)[j]? = some u → (w.alloc (.cells #[.string x.id, .string x.sec, .int .i64 x.sf, .int .i64 x.su, .int .i64 x.af, .int .i64 x.au] 45)).cell? ((⟨w.heap.size, 0, none⟩ : Addr).add j) = some u := by
  intro j u hu
  rw [addr_add, cell_of_row _ w.heap.size j _ _ (0, 0) (heap_alloc_new w _), ← hu]
  simp [kyC]
/-- What Rotate returns. -/
def RetRot (L : List Ky) (E : Int) (e : Ending) (w' : World) : Prop := (E ≠ 0 ∧ e = .returned (.tuple #[.slice none 0 0, .int .i64 E])) ∨ (E = 0 ∧ ∃ A c, e = .returned (.tuple #[.slice A L.length c, .int .i64 0]) ∧ KysAt w' A L)
theorem RetRot.bad {L : List Ky} {E F : Int} {w' : World} (h : E = F) (h0 : F ≠ 0) : RetRot L E (.returned (.tuple #[.slice none 0 0, .int .i64 F])) w' := by subst h; exact .inl ⟨h0, rfl⟩
set_option linter.unusedSimpArgs false in
set_option maxHeartbeats 16000000 in
set_option maxRecDepth 100000 in
theorem rotate_any (l : List Ky) (A : Option Addr) (cc : Nat) (id sec : ByteArray) (t life grace : Int) (w : World) (hS : KysAt w A l) (hlc : l.length ≤ cc) (hl : l.length ≤ 9223372036854775807) (hin : ∀ x ∈ l, KyIn x) (hi1 : id.size ≤ 1000000) (hi2 : sec.size ≤ 1000000) :
    Calls Tryz.prog 33 #[.slice A l.length cc, .string id, .string sec, .int .i64 t, .int .i64 life, .int .i64 grace] w fun e w' => RetRot (rotL l id sec t life grace) (rotE l id sec t life) e w' ∧ Below w.heap.size w w' := by
  obtain ⟨i0, hi, hz0, hz1, hz2⟩ := info_parts info_ky
  have HS := Lib.hid hS
  have HI := Lib.hid hin
  have R1 := Lib.hid (@rot_keys l id sec t life)
  have R2 := Lib.hid (@rot_word l id sec t life)
  have R3 := Lib.hid (@rot_clean l id sec t life)
  have R4 := Lib.hid (@rot_twice l id sec t life)
  have R5 := Lib.hid (@rot_arg l id sec t life)
  have R6 := Lib.hid (@rot_limit l id sec t life)
  have R7 := Lib.hid (@rot_ok l id sec t life)
  have KL := Lib.hid (klimited_any t)
  have KL2 := Lib.hid (klimited_any life)
  have KL3 := Lib.hid (klimited_any grace)
  have KA : Hid (∀ w, Calls Tryz.prog 77 #[.int .i64 (limT t), .int .i64 (limT life)] w fun e w' => e = .returned (.int .i64 (limT (limT t + limT life))) ∧ w = w') := Lib.hid (fun w => by have h := cadd_any (limT t) (limT life) w; rw [limT_twice, limT_twice] at h; exact h)
  have KB : Hid (∀ w, Calls Tryz.prog 77 #[.int .i64 (limT (limT t + limT life)), .int .i64 (limT grace)] w fun e w' => e = .returned (.int .i64 (limT (limT (limT t + limT life) + limT grace))) ∧ w = w') := Lib.hid (fun w => by have h := cadd_any (limT (limT t + limT life)) (limT grace) w; rw [limT_twice, limT_twice] at h; exact h)
  have HNW : Hid (rotL l id sec t life grace = l.map (cutK (limT t)) ++ [newK id sec t life grace]) := Lib.hid rfl
  obtain ⟨L, HL⟩ : ∃ E, Hid (rotL l id sec t life grace = E) := ⟨_, Lib.hid rfl⟩
  rw [HL.out] at HNW
  rw [newK] at HNW
  obtain ⟨G, HG⟩ : ∃ E, Hid (limT (limT (limT t + limT life) + limT grace) = E) := ⟨_, Lib.hid rfl⟩
  rw [HG.out] at KB HNW
  obtain ⟨M, HM⟩ : ∃ E, Hid (limT (limT t + limT life) = E) := ⟨_, Lib.hid rfl⟩
  rw [HM.out] at KA KB R5 R6 R7 HNW
  obtain ⟨T, HT⟩ : ∃ E, Hid (limT t = E) := ⟨_, Lib.hid rfl⟩
  rw [HT.out] at KL KA R5 R6 R7 HNW
  obtain ⟨E, HE⟩ : ∃ E, Hid (keysE l = E) := ⟨_, Lib.hid rfl⟩
  rw [HE.out] at R1 R2 R3 R4 R5 R6 R7
  obtain ⟨W, HW⟩ : ∃ E, Hid (wordS id = E) := ⟨_, Lib.hid rfl⟩
  rw [HW.out] at R2 R3 R4 R5 R6 R7
  obtain ⟨Q, HQ⟩ : ∃ E, Hid (cleanS sec = E) := ⟨_, Lib.hid rfl⟩
  rw [HQ.out] at R3 R4 R5 R6 R7
  have FI := Lib.hid (findI_sign l id)
  obtain ⟨K, HK⟩ : ∃ E, Hid (hasK l id = E) := ⟨_, Lib.hid rfl⟩
  rw [HK.out] at R4 R5 R6 R7 FI
  obtain ⟨I, HII⟩ : ∃ E, Hid (findI l id = E) := ⟨_, Lib.hid rfl⟩
  rw [HII.out] at FI
  rw [HL.out]
  clear hS hin
  go_enter Tryz.func33, Tryz.ntmps33
  go_wp2_with fail
  refine (Calls.mono (KL.out _) ?_)
  rintro e wsame ⟨rfl, rfl⟩
  go_wp2_with fail
  refine (Calls.mono (KL2.out _) ?_)
  rintro e wsame ⟨rfl, rfl⟩
  go_wp2_with fail
  refine (Calls.mono (KL3.out _) ?_)
  rintro e wsame ⟨rfl, rfl⟩
  go_wp2_with fail
  refine (Calls.mono (KA.out _) ?_)
  rintro e wsame ⟨rfl, rfl⟩
  go_wp2_with fail
  refine (kcheck_any l A cc _ HS.out hlc hl HI.out).mono ?_
  rintro e w1 ⟨rfl, hb1⟩
  rw [HE.out]
  have B1 := Lib.hid hb1
  clear hb1 KL KL2 KL3 KA
  by_cases h0 : E = 0
  · have hEb : (E != 0) = false := by rw [h0]; rfl
    have S2 := Lib.hid (R2.out h0)
    have S3 := Lib.hid (R3.out h0)
    have S4 := Lib.hid (R4.out h0)
    have S5 := Lib.hid (R5.out h0)
    have S6 := Lib.hid (R6.out h0)
    have S7 := Lib.hid (R7.out h0)
    have HKE : Hid (keysE l = 0) := Lib.hid (HE.out.trans h0)
    clear R1 R2 R3 R4 R5 R6 R7 h0
    go_wp2_with fail
    refine (word_any id _ (by omega)).mono ?_
    rintro e wsame ⟨rfl, rfl⟩
    rw [HW.out]
    cases W with
    | false =>
      have H := Lib.hid (S2.out (by trivial))
      go_wp2_with fail
      go_ret2
      exact ⟨RetRot.bad H.out (by decide), B1.out⟩
    | true =>
      go_wp2_with fail
      refine (clean_any sec _ (by omega)).mono ?_
      rintro e w2 ⟨rfl, hb2⟩
      rw [HQ.out]
      have B2 := Lib.hid (bthen B1.out hb2)
      clear hb2
      cases Q with
      | false =>
        have H := Lib.hid (S3.out (by trivial) (by trivial))
        go_wp2_with fail
        go_ret2
        exact ⟨RetRot.bad H.out (by decide), B2.out⟩
      | true =>
        go_wp2_with fail
        refine (find_any l A cc id _ (HS.out.below B2.out) hl).mono ?_
        rintro e w3 ⟨rfl, hb3⟩
        rw [HII.out]
        have B3 := Lib.hid (bthen B2.out hb3)
        clear hb3
        cases K with
        | true =>
          have H := Lib.hid (S4.out (by trivial) (by trivial) (by trivial))
          have hI := FI.out.1 (by trivial)
          have hId : decide (I < 0) = false := decide_eq_false (by omega)
          go_wp2_with fail
          go_ret2
          exact ⟨RetRot.bad H.out (by decide), B3.out⟩
        | false =>
          have hI := FI.out.2 (by trivial)
          subst hI
          by_cases h4 : M ≤ T
          · have H := Lib.hid (S5.out (by trivial) (by trivial) (by trivial) (by omega))
            go_wp2_with fail
            go_ret2
            exact ⟨RetRot.bad H.out (by decide), B3.out⟩
          · by_cases h5 : 16 ≤ l.length
            · have H := Lib.hid (S6.out (by trivial) (by trivial) (by trivial) (by omega) h5)
              go_wp2_with fail
              go_ret2
              exact ⟨RetRot.bad H.out (by decide), B3.out⟩
            · have H := Lib.hid (S7.out (by trivial) (by trivial) (by trivial) (by omega) h5)
              clear S2 S3 S4 S5 S6 S7
              go_wp2_with fail
              refine (kclone_any l A cc _ (HS.out.below B3.out) (by omega)).mono ?_
              rintro e w4 ⟨⟨A', c', rfl, ho⟩, hb4⟩
              have O4 := Lib.hid ho
              have B4 := Lib.hid (bthen B3.out hb4)
              have hz4 : w3.heap.size ≤ w4.heap.size := hb4.size
              clear ho hb4
              go_wp2_with fail
              have hk16 : l.length < 16 := by omega
              have hwz := B3.out.size
              go_loopw [59] (fun i wr => ∃ k, k ≤ l.length ∧ i = .int .i64 (k : Nat) ∧ Hid (OwnK wr w3.heap.size A' (cutTo T l k) c') ∧ Hid (Below w.heap.size w wr) ∧ w3.heap.size ≤ wr.heap.size) (fun i _ => l.length - (intOf i).toNat)
              case atStart => exact ⟨0, Nat.zero_le _, rfl, Lib.hid (by rw [cutTo_zero]; exact O4.out), B4, hz4⟩
              case round =>
                obtain ⟨k, hk, rfl, HO, HB, hz3⟩ := hrel
                by_cases hlt : k < l.length
                · obtain ⟨g, rfl, hg⟩ : ∃ g, A' = some ⟨g, 0, none⟩ ∧ w3.heap.size ≤ g := by
                    rcases HO.out.2 with ⟨e, h0⟩ | ⟨g, cap, cur, e, hg, _⟩
                    · rw [cutTo_len] at h0; omega
                    · injection e with e1 _ _
                      exact ⟨g, e1, hg⟩
                  have hO : wr.ownsRow w3.heap.size 45 6 (.slice (some ⟨g, 0, none⟩) l.length c') l.length (kysC (cutTo T l k)) := by
                    have h := HO.out
                    rw [OwnK, cutTo_len] at h
                    exact h
                  have hc : ∀ j, j < 6 → wr.cell? ⟨g, k * 6 + j, none⟩ = (kyC l[k])[j]? := fun j hj => by
                    rw [hO.cellAt (k * 6 + j) (by omega), kysC_at _ k j (by rw [cutTo_len]; exact hlt) hj, cutTo_get T l k hlt]
                  have q2 : wr.cell? ⟨g, k * 6 + 2, none⟩ = some (.int .i64 l[k].sf) := hc 2 (by omega)
                  have q3 : wr.cell? ⟨g, k * 6 + 2 + 1, none⟩ = some (.int .i64 l[k].su) := hc 3 (by omega)
                  have qf : wr.frozen? ⟨g, k * 6 + 2 + 1, none⟩ = false := hO.frozenAt _
                  have HN := Lib.hid (hO.stored (k * 6 + 3) (.int .i64 (max l[k].sf (min l[k].su T)))).1
                  have HC := Lib.hid (cutTo_set T l k hlt)
                  have b0 : (0 : Int) ≤ (k : Int) := by omega
                  have b1 : (k : Int) < (l.length : Int) := by omega
                  generalize l[k].sf = a at *
                  generalize l[k].su = b at *
                  clear hc hO
                  go_upto_region 21 with fail
                  go_region
                  all_goals
                    go_wp2_with fail
                    go_roundw
                    case rel =>
                      refine ⟨k + 1, hlt, by go_num, Lib.hid ?_, Lib.hid (HB.out.drew.setCell (by show w.heap.size ≤ g; omega) _), by simpa using hz3⟩
                      rw [OwnK, cutTo_len, ← HC.out]
                      exact HN.out
                    case measure => simp [intOf]; omega
                · obtain rfl : k = l.length := by omega
                  have HO2 : Hid (wr.ownsRow w3.heap.size 45 6 (.slice A' l.length c') l.length (kysC (l.map (cutK T)))) := Lib.hid (by
                    have h := HO.out
                    rw [OwnK, cutTo_len, cutTo_all] at h
                    exact h)
                  have hwr := HB.out.size
                  have HW3 := Lib.hid hz3
                  go_wp2_with fail
                  refine (Calls.mono (KB.out _) ?_)
                  rintro e wsame ⟨rfl, rfl⟩
                  go_wp2_with (first
                    | (at_builtin; refine wpList_append_own_at _ rfl _ _ 22 rfl w3.heap.size 45 i0 _ 6 64 Tryz.underlying22 hi hz0 hz1 hz2 rfl (by decide) _ l.length (kysC (l.map (cutK T))) rfl (HO2.out.alloc _) ⟨wr.heap.size, 0, none⟩ 1 1 (kyC ⟨id, sec, T, M, T, G⟩) rfl rfl (kyc_new wr ⟨id, sec, T, M, T, G⟩) (kyc_one _) (by unfold maxLen; omega) (by omega) (by have := HW3.out; simp; omega) ?_; intro v2 w2 ho2 hg2 _ _; have HP2 := Lib.hid ho2; have HG2 := Lib.hid hg2; clear ho2 hg2)
                    | fail)
                  go_ret2
                  refine ⟨.inr ⟨H.out, ?_⟩, ?_⟩
                  · have h := HP2.out
                    have e : kysC (l.map (cutK T)) ++ kyC ⟨id, sec, T, M, T, G⟩ = kysC L := by rw [HNW.out, ← kysC_app]; simp [kysC]
                    rw [e] at h
                    obtain ⟨A2, c2, rfl, h2⟩ := OwnK.form h (by rw [HNW.out]; simp)
                    exact ⟨A2, c2, rfl, h2.kys.1⟩
                  · exact (HB.out.alloc hwr _).grown HG2.out (by simp; omega) (fun q hq => by have := (HO2.out.lt q hq).1; omega)
  · have hEb : (E != 0) = true := by simpa using h0
    have H := Lib.hid (R1.out h0)
    go_wp2_with fail
    go_ret2
    exact ⟨RetRot.bad H.out h0, B1.out⟩
end Go.Proofs.YtiiioefjdebggaaGreatDoor

/- Rotation: plain. -/
namespace Go.Proofs.YtiiioefjdebggaaGreatDoor
open Go.RowKit

theorem findK_rot {l : List Ky} {id id' sec : ByteArray} {t life grace : Int} (h : id' ≠ id) : findK (rotL l id sec t life grace) id' = (findK l id').map (cutK (limT t)) := by
  rw [findK, findK, rotL, List.find?_append, List.find?_map]
  have e1 : ((fun k : Ky => decide (k.id = id')) ∘ cutK (limT t)) = fun k : Ky => decide (k.id = id') := rfl
  have e2 : List.find? (fun k : Ky => decide (k.id = id')) [newK id sec t life grace] = none := by
    rw [List.find?_eq_none]
    intro k hk
    rw [List.mem_singleton] at hk
    subst hk
    have hn : ¬ (newK id sec t life grace).id = id' := fun e => h (show id = id' from e).symm
    simpa using hn
  rw [e1, e2, Option.or_none]
theorem ver_rot {l : List Ky} {s id sec a b c : ByteArray} {t life grace : Int} {x : Ex} (hs : TokIs s a b c) (h : a ≠ id) : verE (rotL l id sec t life grace) s x = verE l s x ∧ verC (rotL l id sec t life grace) s x = verC l s x := by
  have hf := findK_rot (l := l) (sec := sec) (t := t) (life := life) (grace := grace) h
  have e : verE (rotL l id sec t life grace) s x = verE l s x := by
    rw [verE, verE, tokO_some hs]
    simp only [hf]
    cases findK l a with
    | none => rfl
    | some k => rfl
  refine ⟨e, ?_⟩
  rw [verC, verC, e]
  have e2 : (verO (rotL l id sec t life grace) s).map (·.2) = (verO l s).map (·.2) := by
    rw [verO, verO, tokO_some hs]
    simp only [hf]
    cases findK l a with
    | none => rfl
    | some k =>
      simp only [Option.map_some]
      cases decO b with
      | none => rfl
      | some d => rfl
  rw [e2]
end Go.Proofs.YtiiioefjdebggaaGreatDoor

/- Keys as arguments: their secrets are of bounded size. -/
namespace Go.Proofs.YtiiioefjdebggaaGreatDoor
open Go.ChangeShapes Go.WideShapes Go.ChangeAt Go.RowKit Go.Deep

/-- A slice, opened, with its elements' readings. -/
theorem open_at_el {H : Type} {enc : TypeId × Value → H} {P : Program} {W : World} {t e : TypeId} {fuel : Nat} {v : Value} {x : DataW H × List MemPlace} (ht : P.underlying t = some (.slice e)) (hc : 0 < P.cellsOf e)
    (hf : DataW.trod enc P W 0 (fun _ => true) true fuel t [v] = some x) :
    ∃ A len cap, v = .slice A len cap ∧ len ≤ cap ∧ cap ≤ 9223372036854775807 ∧ ∀ i, i < len → ∃ b o n y cs, (∃ elems spare, x.1 = .slice elems spare ∧ (y : DataW H × List MemPlace).1 ∈ elems) ∧ A = some ⟨b, o, none⟩ ∧ (∀ j, j < P.cellsOf e → W.cell? ⟨b, o + i * P.cellsOf e + j, none⟩ = cs[j]?) ∧ cs.length = P.cellsOf e ∧ DataW.trod enc P W 0 (fun _ => true) true n e cs = some y := by
  rcases open_slice ht hf with ⟨hcs, hx⟩ | ⟨a, len, cap, m, n, D, Pl, hcs, h1, hl, hm, hmm, hx, hi⟩
  · have e0 : v = .slice none 0 0 := by simpa using hcs
    exact ⟨none, 0, 0, e0, Nat.le_refl _, by omega, fun i h => absurd h (by omega)⟩
  · have e0 : v = .slice (some a) len cap := by simpa using hcs
    simp only [if_true] at hmm
    unfold maxLen at hm
    refine ⟨some a, len, cap, e0, hl, hm, fun i hil => ?_⟩
    obtain ⟨cs, h2, h3⟩ := hi i (by omega)
    obtain ⟨_, hcl, hat⟩ := World.cells?_some h2
    obtain ⟨b, off, spot⟩ := a
    have hspot : spot = none := by
      obtain ⟨cs0, h20, _⟩ := hi 0 (by omega)
      obtain ⟨_, hcl0, hat0⟩ := World.cells?_some h20
      have h := hat0 0 hc
      rw [List.getElem?_eq_getElem (show 0 < cs0.length by omega)] at h
      have e1 : ((⟨b, off, spot⟩ : Addr).add (0 * P.cellsOf e)).add 0 = ⟨b, off, spot⟩ := by simp [Addr.add]
      rw [e1] at h
      exact World.cell?_spot h
    subst hspot
    refine ⟨b, off, n, _, cs, ⟨_, _, by rw [hx], ?_⟩, rfl, fun j hj => ?_, hcl, h3⟩
    · exact List.mem_map.2 ⟨i, List.mem_range.2 hil, rfl⟩
    · have h := hat j hj
      rw [add_add, Go.WideShapes.add_plain] at h
      rw [← h, Nat.add_assoc]
theorem weights_all {H : Type} {P : Program} {e : TypeId} : ∀ {l : List (DataW H)} {d : DataW H}, d ∈ l → ∀ n ∈ d.weights P e, n ∈ DataW.weightsAll P e l
  | d0 :: r, d, hd, n, hn => by
    simp only [DataW.weightsAll, List.mem_append]
    rcases List.mem_cons.1 hd with rfl | hd
    · exact .inl hn
    · exact .inr (weights_all hd n hn)
  | [], _, hd, _, _ => by cases hd
set_option maxRecDepth 100000 in
theorem ky_sec {H : Type} {enc : TypeId × Value → H} {W : World} {n : Nat} {x : Ky} {y : DataW H × List MemPlace}
    (hy : DataW.trod enc Tryz.prog W 0 (fun _ => true) true n 45 (kyC x) = some y) : x.sec.size ∈ y.1.weights Tryz.prog 45 := by
  have he := Tryz.underlying45
  obtain ⟨xs, n', _, hx, _, hlen, hg⟩ := DataW.trod_struct he hy
  have h1 := hg 1 _ rfl
  have hjl : 1 < xs.length := by rw [hlen]; decide
  rw [List.getElem?_eq_getElem hjl] at h1
  obtain ⟨s, h2, h3, _⟩ := DataW.trod_string (by kernel_rfl) h1
  have h4 : s = x.sec := by
    have h5 : [Value.string x.sec] = [Value.string s] := h2
    injection h5 with h5 _
    injection h5 with h5
    exact h5.symm
  subst h4
  rw [hx]
  simp only [DataW.weights, he]
  refine DataW.weights_mem_each (j := 1) (t := 9) rfl (d := .lit (.string x.sec.data.toList)) ?_ _ (by simp [DataW.weights])
  rw [List.getElem?_map, List.getElem?_eq_getElem hjl, h3]
  rfl
set_option maxRecDepth 100000 in
theorem open_kys_sized {H : Type} {enc : TypeId × Value → H} {W : World} {b0 : Nat} {v : Value} {d : DataW H} {p : List MemPlace}
    (hval : Value.okWide Tryz.prog W .any b0 22 v) (hd : DataW.Trod enc Tryz.prog W 0 (fun _ => true) true 22 v d p)
    (hw : ∀ n ∈ d.weights Tryz.prog 22, n ≤ reachBytes) :
    ∃ A l c, v = .slice A (l : List Ky).length c ∧ KysAt W A l ∧ l.length ≤ c ∧ l.length ≤ 9223372036854775807 ∧ (∀ x ∈ l, KyIn x) ∧ ∀ x ∈ l, x.sec.size ≤ 140737488351232 := by
  have hce : Tryz.prog.cellsOf 45 = 6 := by kernel_rfl
  obtain ⟨a0, len0, cap0, rfl⟩ := okWide_slice Tryz.underlying22 hval
  obtain ⟨fuel, hf⟩ := hd
  obtain ⟨A, len, cap, hv, hl, hm, hi⟩ := open_at_el Tryz.underlying22 (by omega) (by simpa [Value.cells] using hf)
  have each : ∀ i, i < len → ∃ x : Ky, (∃ b o, A = some ⟨b, o, none⟩ ∧ ∀ j, j < 6 → W.cell? ⟨b, o + i * 6 + j, none⟩ = (kyC x)[j]?) ∧ KyIn x ∧ x.sec.size ≤ 140737488351232 := by
    intro i hil
    obtain ⟨b, o, n, y, cs, ⟨elems, spare, hxe, hmem⟩, hA, hcell, hcl, hy⟩ := hi i hil
    rw [hce] at hcell hcl
    obtain ⟨x, rfl, hin⟩ := ky_cells hcl hy
    have hs := weights_all hmem _ (ky_sec hy)
    have hn := hw x.sec.size (by
      have e : d = .slice elems spare := hxe
      rw [e]
      simp only [DataW.weights, Tryz.underlying22, List.mem_cons, List.mem_append]
      exact .inr (.inl hs))
    exact ⟨x, ⟨b, o, hA, hcell⟩, hin, hn⟩
  obtain ⟨f, hf⟩ := choose_ky each
  have hlen : ((List.range len).map f).length = len := by simp
  refine ⟨A, (List.range len).map f, cap, by rw [hlen]; exact hv, ?_, by rw [hlen]; exact hl, by rw [hlen]; omega, fun x hx => ?_, fun x hx => ?_⟩
  · intro i hi'
    obtain ⟨⟨b, o, hA, h⟩, _⟩ := hf i (by simpa using hi')
    refine ⟨b, o, hA, ?_⟩
    simp only [List.getElem_map, List.getElem_range]
    exact ⟨h 0 (by omega), h 1 (by omega), h 2 (by omega), h 3 (by omega), h 4 (by omega), h 5 (by omega)⟩
  · simp only [List.mem_map, List.mem_range] at hx
    obtain ⟨i, hi', rfl⟩ := hx
    exact (hf i hi').2.1
  · simp only [List.mem_map, List.mem_range] at hx
    obtain ⟨i, hi', rfl⟩ := hx
    exact (hf i hi').2.2
end Go.Proofs.YtiiioefjdebggaaGreatDoor

