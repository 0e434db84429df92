/- codec.Split and its reference compute splitS, splitErr. -/
import Derived.Test.YtnkblimmlkidcaaDoorCodSplitS
import Derived.Test.YtnkblimmlkidcaaDoorCodEscW
import Derived.Test.YtnkblimmlkidcaaDoorCodRefUn
import Derived.Test.YtnkblimmlkidcaaDoorCodRefCut
import Derived.Test.YtnkblimmlkidcaaDoorCodRJoin
namespace Go.Proofs.YtnkblimmlkidcaaDoor
open Go.RowKit

def unAllO : List ByteArray → Option (List ByteArray)
  | [] => some []
  | p :: ps => (unescO p).bind fun a => (unAllO ps).map (a :: ·)
theorem unAllO_eq (l : List (List UInt8)) : (unAll l).map (List.map bsOf) = unAllO (l.map bsOf) := by
  induction l with
  | nil => rfl
  | cons p ps ih =>
    rw [unAll, List.map_cons, unAllO, ← ih]
    show _ = ((unE (bsOf p).data.toList 0).map fun l => (⟨l.toArray⟩ : ByteArray)).bind _
    rw [list_bsOf]
    cases unE p 0 with
    | none => rfl
    | some a =>
      cases unAll ps with
      | none => rfl
      | some r => rfl
theorem splitO_else {s : ByteArray} (h1 : s ≠ ⟨#[45]⟩) (h2 : s ≠ ⟨#[37, 50, 68]⟩) : splitO s = unAllO (cutsS s 124) := by
  have e1 : ¬ s.data.toList = [45] := fun e => h1 (by rw [← bsOf_list s, e]; rfl)
  have e2 : ¬ s.data.toList = [37, 50, 68] := fun e => h2 (by rw [← bsOf_list s, e]; rfl)
  rw [splitO, splitE, if_neg e1, if_neg e2, unAllO_eq]; rfl
theorem splitO_dash : splitO ⟨#[45]⟩ = some [] := rfl
theorem splitO_2d : splitO ⟨#[37, 50, 68]⟩ = some [⟨#[45]⟩] := rfl
theorem split_some {s : ByteArray} {l : List ByteArray} (h : splitO s = some l) : splitS s = l ∧ splitErr s = 0 := by simp [splitS, splitErr, h]
theorem split_none {s : ByteArray} (h : splitO s = none) : splitS s = [] ∧ splitErr s = 4 := by simp [splitS, splitErr, h]
theorem all_none {l U : List ByteArray} {k : Nat} {R : Option (List ByteArray)} (hk : k < l.length) (h : unescO l[k] = none) (HP : (unAllO (l.drop k)).map (U ++ ·) = R) : R = none := by
  rw [List.drop_eq_getElem_cons hk, unAllO, h] at HP
  rw [← HP]; rfl
theorem all_step {l U : List ByteArray} {k : Nat} {t : ByteArray} {R : Option (List ByteArray)} (hk : k < l.length) (h : unescO l[k] = some t) (HP : (unAllO (l.drop k)).map (U ++ ·) = R) : (unAllO (l.drop (k + 1))).map ((U ++ [t]) ++ ·) = R := by
  rw [List.drop_eq_getElem_cons hk, unAllO, h, Option.bind_some] at HP
  rw [← HP]
  cases unAllO (l.drop (k + 1)) <;> simp
theorem all_end {l U : List ByteArray} {k : Nat} {R : Option (List ByteArray)} (hk : ¬ k < l.length) (HP : (unAllO (l.drop k)).map (U ++ ·) = R) : R = some U := by
  rw [List.drop_of_length_le (by omega), unAllO] at HP
  rw [← HP]; simp
theorem unesc_case (s : ByteArray) : (unescO s = none ∧ unescS s = ⟨#[]⟩ ∧ unescE s = 4) ∨ ∃ t, unescO s = some t ∧ unescS s = t ∧ unescE s = 0 := by
  cases h : unescO s with
  | none => exact .inl ⟨rfl, (un_noneO h)⟩
  | some t => exact .inr ⟨t, rfl, un_some h⟩
theorem done_all {xs : List Value} {l : List ByteArray} (hl : xs.length = l.length) (h : Done xs l l.length) : xs = strVs l := by
  apply List.ext_getElem?
  intro j
  by_cases hj : j < l.length
  · rw [h j hj hj, strVs_at l j hj]
  · rw [List.getElem?_eq_none (by omega), List.getElem?_eq_none (by simp [strVs]; omega)]
theorem set_vs {l U : List ByteArray} {k : Nat} (hU : U.length = k) (hk : k < l.length) (t : ByteArray) : (strVs (U ++ l.drop k)).set k (.string t) = strVs ((U ++ [t]) ++ l.drop (k + 1)) := by
  subst hU
  rw [List.drop_eq_getElem_cons hk]
  generalize l.drop (U.length + 1) = R
  generalize l[U.length] = x
  simp [strVs, strV]
theorem at_vs {l U : List ByteArray} {k : Nat} (hU : U.length = k) (hk : k < l.length) : (strVs (U ++ l.drop k))[k]? = some (.string l[k]) := by
  subst hU
  rw [List.drop_eq_getElem_cons hk]
  generalize l.drop (U.length + 1) = R
  generalize l[U.length] = x
  simp [strVs, strV]
theorem cutL_small (c : UInt8) (l : List UInt8) : ∀ p ∈ cutL c l, p.length ≤ l.length := by
  induction l with
  | nil => intro p hp; simp [cutL] at hp; subst hp; simp
  | cons x r ih =>
    intro p hp
    rw [cutL] at hp
    split at hp
    · rw [List.mem_cons] at hp
      rcases hp with rfl | hp
      · simp
      · have := ih p hp; simp; omega
    · cases hc : cutL c r with
      | nil => exact absurd hc (cutL_ne c r)
      | cons q qs =>
        rw [hc] at hp ih
        simp only [List.mem_cons] at hp
        rcases hp with rfl | hp
        · have := ih q (by simp); simp; omega
        · have := ih p (List.mem_cons_of_mem _ hp); simp; omega
theorem cuts_size {s : ByteArray} {c : UInt8} : ∀ p ∈ cutsS s c, p.size ≤ s.size := by
  intro p hp
  rw [cutsS, cutsL, List.mem_map] at hp
  obtain ⟨q, hq, rfl⟩ := hp
  have := cutL_small c s.data.toList q hq
  have e1 : (bsOf q).size = q.length := by simp [bsOf, ByteArray.size]
  have e2 : s.size = s.data.toList.length := by simp
  omega

set_option maxHeartbeats 4000000 in
set_option maxRecDepth 100000 in
theorem csplit_any (s : ByteArray) (w : World) (hs : s.size ≤ 1000000) :
    Calls Tryd.prog 18 #[.string s] w fun e w' => RetStrs2 w.heap.size w' e (splitS s) (splitErr s) ∧ Below w.heap.size w w' := by
  go_enter Tryd.func18, Tryd.ntmps18
  by_cases h1 : s = ⟨#[45]⟩
  · subst h1
    have hG := Lib.hid (split_some splitO_dash)
    go_wp2_with fail
    go_ret2
    exact ⟨⟨none, 0, by rw [hG.out.1, hG.out.2]; rfl, by rw [hG.out.1]; exact Strs.nil_ _ _, (fun p h => by cases h), by rw [hG.out.1]; exact Nat.le_refl _⟩, Below.refl _ _⟩
  · have hd1 := dash_ne' h1
    by_cases h2 : s = ⟨#[37, 50, 68]⟩
    · subst h2
      have hG := Lib.hid (split_some splitO_2d)
      clear hd1 h1
      go_wp2_with fail
      go_ret2
      refine ⟨⟨some ⟨w.heap.size, 0, none⟩, 1, by rw [hG.out.1, hG.out.2]; rfl, ?_, (fun p h => by cases h; exact Nat.le_refl _), by rw [hG.out.1]; exact Nat.le_refl _⟩, (Below.refl _ _).alloc (Nat.le_refl _) _⟩
      rw [hG.out.1]
      intro i hi
      have hi0 : i = 0 := by simpa using hi
      subst hi0
      exact ⟨w.heap.size, 0, rfl, by simp [go_sem]⟩
    · have hd2 : (s.toList == [37, 50, 68]) = false := by
        have := str_ne h2
        rwa [show (⟨#[37, 50, 68]⟩ : ByteArray).toList = [37, 50, 68] by rw [Lib.toList_data]] at this
      have HO := Lib.hid (splitO_else h1 h2)
      clear h1 h2
      have hle := cutsS_le s 124
      have HZ := Lib.hid (cuts_size (s := s) (c := 124))
      go_wp2_with fail
      refine (ssplit_any s 124 w (by omega)).mono ?_
      rintro e w1 ⟨xs, cap, rfl, hc1, hown1, hD1, hb1⟩
      have hx := done_all (by have := hown1.1; omega) hD1
      clear hD1
      subst hx
      obtain ⟨N, hN⟩ : ∃ N, (cutsS s 124).length = N := ⟨_, rfl⟩
      rw [hN] at hc1 hown1 hle
      have HN := Lib.hid hN
      rw [hN]
      clear hN
      go_wp2_with fail
      go_loopw [5, 6, 7, 8, 18] (fun _ _ _ _ j wr => ∃ (k : Nat) (U : List ByteArray), k ≤ N ∧ j = .int .i64 k ∧ U.length = k ∧ wr.ownsRow w.heap.size 9 1 (.slice (some ⟨w.heap.size, 0, none⟩) N cap) N (strVs (U ++ (cutsS s 124).drop k)) ∧ Hid ((unAllO ((cutsS s 124).drop k)).map (U ++ ·) = splitO s) ∧ Below w.heap.size w wr) (fun _ _ _ _ i _ => N - (intOf i).toNat)
      case atStart => exact ⟨0, [], Nat.zero_le _, rfl, rfl, by simpa using hown1, Lib.hid (by rw [HO.out]; simp), hb1⟩
      case round =>
        clear hown1
        obtain ⟨k, U, hk, rfl, hU, hown, HP, hbr⟩ := hrel
        by_cases hlt : k < N
        · have hlt2 : k < (cutsS s 124).length := by rw [HN.out]; exact hlt
          have hcell := (hown.cellAt k (by omega)).trans (at_vs hU hlt2)
          have hfr := hown.frozenAt k
          have hsz := HZ.out _ (List.getElem_mem hlt2)
          have HA : Hid (unescO (cutsS s 124)[k] = none → splitO s = none) := Lib.hid (fun h => all_none hlt2 h HP.out)
          have HB : Hid (∀ t, unescO (cutsS s 124)[k] = some t → (unAllO ((cutsS s 124).drop (k + 1))).map ((U ++ [t]) ++ ·) = splitO s) := Lib.hid (fun t h => all_step hlt2 h HP.out)
          have HU := Lib.hid hU
          have HL2 := Lib.hid hlt2
          generalize (cutsS s 124)[k] = x at hcell hsz HA HB
          have hun := unesc_any x wr (by omega)
          rcases unesc_case x with ⟨hx1, hx2, hx3⟩ | ⟨t, hx1, hx2, hx3⟩
          · rw [hx2, hx3] at hun
            have hG := Lib.hid (split_none (HA.out hx1))
            clear hx1 hx2 hx3 hU hlt2
            go_wp2_with fail
            refine hun.mono ?_
            rintro e w2 ⟨rfl, hb2⟩
            go_wp2_with fail
            go_ret2
            exact ⟨⟨none, 0, by rw [hG.out.1, hG.out.2]; rfl, by rw [hG.out.1]; exact Strs.nil_ _ _, (fun p h => by cases h), by rw [hG.out.1]; exact Nat.le_refl _⟩, bthen hbr hb2⟩
          · rw [hx2, hx3] at hun
            have HP1 := Lib.hid (HB.out t hx1)
            clear hx1 hx2 hx3 hU hlt2
            go_wp2_with fail
            refine hun.mono ?_
            rintro e w2 ⟨rfl, hb2⟩
            have hown2 := own_below hown hb2
            have hcell2 := (hown2.cellAt k (by omega)).trans (at_vs HU.out HL2.out)
            have hfr2 := hown2.frozenAt k
            clear hcell hfr
            go_wp2_with fail
            have HS := (hown2.stored k (.string t)).1
            rw [set_vs HU.out HL2.out] at HS
            go_roundw
            case rel => exact ⟨k + 1, U ++ [t], hlt, by go_num, by rw [List.length_append, HU.out]; rfl, HS, HP1, (bthen hbr hb2).setCell (p := ⟨w.heap.size, k, none⟩) (Nat.le_refl _) _⟩
            case measure => simp [intOf]; omega
        · have hkN : k = N := by omega
          have hG := Lib.hid (split_some (all_end (by rw [HN.out]; exact hlt) HP.out))
          have hdr : (cutsS s 124).drop k = [] := List.drop_of_length_le (by rw [HN.out]; omega)
          rw [hdr, List.append_nil] at hown
          clear hdr
          go_wp2_with fail
          go_ret2
          refine ⟨?_, hbr⟩
          rw [hG.out.1, hG.out.2]
          exact RetStrs2.own hown (hU.trans hkN) (strVs_at U)
end Go.Proofs.YtnkblimmlkidcaaDoor
