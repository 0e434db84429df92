/- Joined: AudLine, AudChain. -/
import Derived.Test.YthdpkfddmkijlaaGreatDoorSeg4
import Derived.Test.YthdpkfddmkijlaaGreatDoorSeg3
import Derived.Deep.RegionHeld3
import Derived.Deep.RegionWith
/- audit.Line and its reference. -/
namespace Go.Proofs.YthdpkfddmkijlaaGreatDoor
open Go.RowKit

theorem ret_line {s s' : ByteArray} {n n' : Int} (h1 : s = s') (h2 : n = n') : Ending.returned (.tuple #[.string s, .int .i64 n]) = .returned (.tuple #[.string s', .int .i64 n']) := by rw [h1, h2]
theorem empty_size {s : ByteArray} (h : s.size = 0) : s.toList.isEmpty = true := by
  rw [Lib.toList_data, List.isEmpty_iff]
  exact List.eq_nil_of_length_eq_zero (by simpa using h)
theorem nonempty_size {s : ByteArray} (h : ¬ s.size = 0) : s.toList.isEmpty = false := by
  rw [Lib.toList_data]
  cases hd : s.data.toList with
  | nil => exact absurd (by have : s.data.toList.length = s.size := by simp
                            rw [hd] at this; simpa using this.symm) h
  | cons a t => rfl
theorem line_time {e : Ev} (h : validT e.time = false) : lineS e = ⟨#[]⟩ ∧ lineE e = 2 := by
  have : lineE e = 2 := by rw [lineE, if_neg (by rw [h]; decide)]
  exact ⟨lineS_bad (by rw [this]; decide), this⟩
theorem line_name {e : Ev} (h : validT e.time = true) (hn : evNames e = false) : lineS e = ⟨#[]⟩ ∧ lineE e = 5 := by
  have : lineE e = 5 := by rw [lineE, if_pos h, if_neg (by rw [hn]; decide)]
  exact ⟨lineS_bad (by rw [this]; decide), this⟩
theorem line_res {e : Ev} (h : validT e.time = true) (hn : evNames e = true) (hr : resOk e.result = false) : lineS e = ⟨#[]⟩ ∧ lineE e = 2 := by
  have : lineE e = 2 := by rw [lineE, if_pos h, if_pos hn, if_neg (by rw [hr]; decide)]
  exact ⟨lineS_bad (by rw [this]; decide), this⟩
/-- The cells of a boxed event. -/
def BoxAt (w : World) (b : Nat) (t r : Int) (tn ac an ob : ByteArray) : Prop := w.cell? ⟨b, 0, none⟩ = some (.int .i64 t) ∧ w.cell? ⟨b, 1, none⟩ = some (.string tn) ∧ w.cell? ⟨b, 2, none⟩ = some (.string ac) ∧ w.cell? ⟨b, 3, none⟩ = some (.string an) ∧ w.cell? ⟨b, 4, none⟩ = some (.string ob) ∧ w.cell? ⟨b, 5, none⟩ = some (.int .i64 r)
theorem box_cells (w : World) (t r : Int) (tn ac an ob : ByteArray) (w' : World) (h : w' = (w.alloc (.cells #[.int .i64 t, .string tn, .string ac, .string an, .string ob, .int .i64 r] 24)).drew) : BoxAt w' w.heap.size t r tn ac an ob := by
  subst h
  have hb := heap_alloc_new w (.cells #[.int .i64 t, .string tn, .string ac, .string an, .string ob, .int .i64 r] 24 (0, 0))
  exact ⟨cell_of_row _ _ 0 _ _ (0, 0) hb, cell_of_row _ _ 1 _ _ (0, 0) hb, cell_of_row _ _ 2 _ _ (0, 0) hb, cell_of_row _ _ 3 _ _ (0, 0) hb, cell_of_row _ _ 4 _ _ (0, 0) hb, cell_of_row _ _ 5 _ _ (0, 0) hb⟩
theorem box_below {w w' : World} {b : Nat} {t r : Int} {tn ac an ob : ByteArray} (h : BoxAt w b t r tn ac an ob) (hb : Below w.heap.size w w') (hl : b < w.heap.size) : BoxAt w' b t r tn ac an ob := by
  obtain ⟨h0, h1, h2, h3, h4, h5⟩ := h
  exact ⟨(hb.cell (p := ⟨b, 0, none⟩) hl).trans h0, (hb.cell (p := ⟨b, 1, none⟩) hl).trans h1, (hb.cell (p := ⟨b, 2, none⟩) hl).trans h2, (hb.cell (p := ⟨b, 3, none⟩) hl).trans h3, (hb.cell (p := ⟨b, 4, none⟩) hl).trans h4, (hb.cell (p := ⟨b, 5, none⟩) hl).trans h5⟩
theorem box_three {w w1 w2 w3 : World} {b : Nat} {t r : Int} {tn ac an ob : ByteArray} {o : Obj} (h : BoxAt w b t r tn ac an ob) (hl : b < w.heap.size) (h1 : Below w.heap.size w w1) (h2 : Below w1.heap.size w1 w2) (h3 : Below (w2.alloc o).heap.size (w2.alloc o) w3) : BoxAt w3 b t r tn ac an ob := by
  have s1 := h1.size
  have s2 := h2.size
  have a1 := box_below h h1 hl
  have a2 := box_below a1 h2 (by omega)
  have a3 := box_below a2 ((Below.refl _ _).alloc (Nat.le_refl _) o) (by omega)
  exact box_below a3 h3 (by simp; omega)
theorem pow_drew {w : World} (h : PowOk w) : PowOk w.drew := h
theorem six_new (w : World) (a b c d e f : ByteArray) : Strs (w.alloc (.cells #[.string a, .string b, .string c, .string d, .string e, .string f] 9)) (some ⟨w.heap.size, 0, none⟩) [a, b, c, d, e, f] := by
  intro i hi
  refine ⟨w.heap.size, 0, rfl, ?_⟩
  have hb := heap_alloc_new w (.cells #[.string a, .string b, .string c, .string d, .string e, .string f] 9 (0, 0))
  rw [Nat.zero_add, cell_of_row _ _ i _ _ (0, 0) hb]
  match i, hi with
  | 0, _ => rfl
  | 1, _ => rfl
  | 2, _ => rfl
  | 3, _ => rfl
  | 4, _ => rfl
  | 5, _ => rfl
set_option maxHeartbeats 1000000 in
theorem optional_any (s : ByteArray) (w : World) (hs : s.size ≤ 9223372036854775807) :
    Calls Tryz.prog 51 #[.string s] w fun e w' => e = .returned (.bool (optW s)) ∧ w = w' := by
  by_cases h : s.size = 0
  · have e1 : s.toList.isEmpty = true := empty_size h
    have e2 : s.toList = [] := by rwa [List.isEmpty_iff] at e1
    have HO : Hid (true = optW s) := Lib.hid (by rw [optW, decide_eq_true h, Bool.true_or])
    clear h
    go_enter Tryz.func51, Tryz.ntmps51
    go_wp2_with fail
    go_ret
    exact ⟨ret_bool HO.out, rfl⟩
  · have e1 : s.toList.isEmpty = false := nonempty_size h
    have e2 : (s.toList == []) = false := by
      cases hd : s.toList with
      | nil => rw [hd] at e1; cases e1
      | cons a t => rfl
    have HO : Hid (wordS s = optW s) := Lib.hid (by rw [optW, decide_eq_false h, Bool.false_or])
    clear h
    go_enter Tryz.func51, Tryz.ntmps51
    go_wp2_with fail
    refine (rword_any s w hs).mono ?_
    rintro e w1 ⟨rfl, rfl⟩
    go_wp2_with fail
    go_ret
    exact ⟨ret_bool HO.out, rfl⟩
set_option maxHeartbeats 8000000 in
set_option maxRecDepth 100000 in
theorem line_any (x : Ev) (w : World) (hin : EvIn x) (hp : PowOk w) :
    Calls Tryz.prog 12 #[evV x] w fun e w' => e = .returned (.tuple #[.string (lineS x), .int .i64 (lineE x)]) ∧ Below w.heap.size w w' := by
  obtain ⟨t, tn, ac, an, ob, r⟩ := x
  obtain ⟨q1, q2, q3, q4, q5, q6, q7, q8⟩ := hin
  have q1 : -9223372036854775808 ≤ t := q1
  have q2 : t ≤ 9223372036854775807 := q2
  have q3 : -9223372036854775808 ≤ r := q3
  have q4 : r ≤ 9223372036854775807 := q4
  have q5 : tn.size ≤ 9223372036854775807 := q5
  have q6 : ac.size ≤ 9223372036854775807 := q6
  have q7 : an.size ≤ 9223372036854775807 := q7
  have q8 : ob.size ≤ 9223372036854775807 := q8
  have HB : Hid (Below w.heap.size w (w.alloc (.cells #[.int .i64 t, .string tn, .string ac, .string an, .string ob, .int .i64 r] 24))) := Lib.hid ((Below.refl _ _).alloc (Nat.le_refl _) _)
  show Calls Tryz.prog 12 #[.agg #[.int .i64 t, .string tn, .string ac, .string an, .string ob, .int .i64 r]] w _
  go_enter Tryz.func12, Tryz.ntmps12
  go_wp2_with fail
  refine (cvalid_any t _).mono ?_
  rintro e wsame ⟨rfl, rfl⟩
  cases hT : validT t
  ·
    have HT := Lib.hid hT
    clear hT
    have HF : Hid (lineS ⟨t, tn, ac, an, ob, r⟩ = ⟨#[]⟩ ∧ lineE ⟨t, tn, ac, an, ob, r⟩ = 2) := Lib.hid (line_time (e := ⟨t, tn, ac, an, ob, r⟩) HT.out)
    go_wp2_with fail
    go_ret2
    exact ⟨ret_line HF.out.1.symm HF.out.2.symm, HB.out⟩
  ·
    have HT := Lib.hid hT
    clear hT
    go_wp2_with fail
    refine (word_any tn _ (by omega)).mono ?_
    rintro e wsame ⟨rfl, rfl⟩
    cases h1 : wordS tn
    ·
      have H1 := Lib.hid h1
      clear h1
      have HF : Hid (lineS ⟨t, tn, ac, an, ob, r⟩ = ⟨#[]⟩ ∧ lineE ⟨t, tn, ac, an, ob, r⟩ = 5) := Lib.hid (line_name (e := ⟨t, tn, ac, an, ob, r⟩) HT.out (by rw [evNames]; simp [H1.out]))
      go_wp2_with fail
      go_ret2
      exact ⟨ret_line HF.out.1.symm HF.out.2.symm, HB.out⟩
    ·
      have H1 := Lib.hid h1
      clear h1
      go_wp2_with fail
      refine (word_any an _ (by omega)).mono ?_
      rintro e wsame ⟨rfl, rfl⟩
      cases h2 : wordS an
      ·
        have H2 := Lib.hid h2
        clear h2
        have HF : Hid (lineS ⟨t, tn, ac, an, ob, r⟩ = ⟨#[]⟩ ∧ lineE ⟨t, tn, ac, an, ob, r⟩ = 5) := Lib.hid (line_name (e := ⟨t, tn, ac, an, ob, r⟩) HT.out (by rw [evNames]; simp [H1.out, H2.out]))
        go_wp2_with fail
        go_ret2
        exact ⟨ret_line HF.out.1.symm HF.out.2.symm, HB.out⟩
      ·
        have H2 := Lib.hid h2
        clear h2
        by_cases hac : ac.size = 0
        · have HC0 : Hid (optW ac = true) := Lib.hid (by rw [optW, decide_eq_true hac, Bool.true_or])
          have eac : ac.toList.isEmpty = true := empty_size hac
          have gac : ac.toList = [] := by rwa [List.isEmpty_iff] at eac
          clear hac
          by_cases hob : ob.size = 0
          · have HC1 : Hid (optW ob = true) := Lib.hid (by rw [optW, decide_eq_true hob, Bool.true_or])
            have eob : ob.toList.isEmpty = true := empty_size hob
            have gob : ob.toList = [] := by rwa [List.isEmpty_iff] at eob
            clear hob
            have HN : Hid (evNames ⟨t, tn, ac, an, ob, r⟩ = true) := Lib.hid (by rw [evNames]; simp [H1.out, H2.out, HC0.out, HC1.out])
            by_cases hr0 : r < 0
            ·
              have HF : Hid (lineS ⟨t, tn, ac, an, ob, r⟩ = ⟨#[]⟩ ∧ lineE ⟨t, tn, ac, an, ob, r⟩ = 2) := Lib.hid (line_res HT.out HN.out (by show resOk r = false; rw [resOk, decide_eq_false_iff_not]; omega))
              go_wp2_with fail
              go_ret2
              exact ⟨ret_line HF.out.1.symm HF.out.2.symm, HB.out⟩
            · by_cases hr1 : 32 < r
              ·
                have HF : Hid (lineS ⟨t, tn, ac, an, ob, r⟩ = ⟨#[]⟩ ∧ lineE ⟨t, tn, ac, an, ob, r⟩ = 2) := Lib.hid (line_res HT.out HN.out (by show resOk r = false; rw [resOk, decide_eq_false_iff_not]; omega))
                go_wp2_with fail
                go_ret2
                exact ⟨ret_line HF.out.1.symm HF.out.2.symm, HB.out⟩
              · have HR : Hid (resOk r = true) := Lib.hid (by rw [resOk, decide_eq_true_iff]; omega)
                have HOK : Hid (lineE ⟨t, tn, ac, an, ob, r⟩ = 0) := Lib.hid (lineE_mk (e := ⟨t, tn, ac, an, ob, r⟩) HT.out HN.out HR.out)
                have HZ := Lib.hid (evParts_size (e := ⟨t, tn, ac, an, ob, r⟩) HT.out HN.out HR.out)
                have ht := validT_in HT.out
                have hc0 : (w.alloc (.cells #[.int .i64 t, .string tn, .string ac, .string an, .string ob, .int .i64 r] 24)).heap.size = w.heap.size + 1 := by simp
                go_wp2_with fail
                go_region_held3 (fun w' => w'.cell? ⟨w.heap.size, 0, none⟩ = some (.int .i64 t) ∧ w'.cell? ⟨w.heap.size, 1, none⟩ = some (.string tn) ∧ w'.cell? ⟨w.heap.size, 2, none⟩ = some (.string ac) ∧ w'.cell? ⟨w.heap.size, 3, none⟩ = some (.string an) ∧ w'.cell? ⟨w.heap.size, 4, none⟩ = some (.string ob) ∧ w'.cell? ⟨w.heap.size, 5, none⟩ = some (.int .i64 r))
                  (first | go_keep | (exact box_cells w t r tn ac an ob _ rfl) | (exact box_below (box_cells w t r tn ac an ob _ rfl) hb1 (by simp)) | (exact box_below (box_below (box_cells w t r tn ac an ob _ rfl) hb1 (by simp)) hb2 (by have := hb1.size; simp at this; omega)) | (exact box_below (box_below (box_below (box_cells w t r tn ac an ob _ rfl) hb1 (by simp)) hb2 (by have := hb1.size; simp at this; omega)) ((Below.refl _ _).alloc (Nat.le_refl _) _) (by have := hb1.size; have := hb2.size; simp at *; omega)) | (exact box_three (box_cells w t r tn ac an ob _ rfl) (by simp) hb1 hb2 hb3))
                  (first
                    | (go_at_call_of 48 (Value.int IntKind.i64 t); refine (cint_any t _ (by omega) (by omega) ?_).mono ?_; exact pow_drew (hp.below HB.out); rintro e w1 ⟨rfl, hb1⟩)
                    | (go_at_call_of 48 (Value.int IntKind.i64 r); refine (cint_any r _ (by omega) (by omega) ?_).mono ?_; exact (pow_drew (hp.below HB.out)).below hb1; rintro e w2 ⟨rfl, hb2⟩)
                    | (go_at_call 47; refine (cjoin_any (evParts ⟨t, tn, ac, an, ob, r⟩) (some ⟨w2.heap.size, 0, none⟩) 6 _ ?_ (by simp [evParts]) ?_).mono ?_; exact six_new _ _ _ _ _ _ _; exact (fun s hs => Nat.le_trans (HZ.out s hs) (by decide)); rintro e w3 ⟨rfl, hb3⟩))
                all_goals
                  go_wp2_with fail
                  go_ret2
                  refine ⟨ret_line (lineS_ok HOK.out).symm HOK.out.symm, ?_⟩
                  exact ((HB.out.drew.trans (hb1.mono (by simp))).trans (hb2.mono (by have := hb1.size; simp at this; omega))).alloc (by have := hb1.size; have := hb2.size; simp at *; omega) _ |>.trans (hb3.mono (by have := hb1.size; have := hb2.size; simp at *; omega))
          · have eob : ob.toList.isEmpty = false := nonempty_size hob
            have hwob : optW ob = wordS ob := by rw [optW, decide_eq_false hob, Bool.false_or]
            have HWob := Lib.hid hwob
            clear hob hwob
            go_wp2_with fail
            refine (word_any ob _ (by omega)).mono ?_
            rintro e wsame ⟨rfl, rfl⟩
            cases hob : wordS ob
            ·
              have HC1 : Hid (optW ob = false) := Lib.hid (by rw [HWob.out, hob])
              clear hob
              have HF : Hid (lineS ⟨t, tn, ac, an, ob, r⟩ = ⟨#[]⟩ ∧ lineE ⟨t, tn, ac, an, ob, r⟩ = 5) := Lib.hid (line_name (e := ⟨t, tn, ac, an, ob, r⟩) HT.out (by rw [evNames]; simp [H1.out, H2.out, HC0.out, HC1.out]))
              go_wp2_with fail
              go_ret2
              exact ⟨ret_line HF.out.1.symm HF.out.2.symm, HB.out⟩
            ·
              have HC1 : Hid (optW ob = true) := Lib.hid (by rw [HWob.out, hob])
              clear hob
              have HN : Hid (evNames ⟨t, tn, ac, an, ob, r⟩ = true) := Lib.hid (by rw [evNames]; simp [H1.out, H2.out, HC0.out, HC1.out])
              by_cases hr0 : r < 0
              ·
                have HF : Hid (lineS ⟨t, tn, ac, an, ob, r⟩ = ⟨#[]⟩ ∧ lineE ⟨t, tn, ac, an, ob, r⟩ = 2) := Lib.hid (line_res HT.out HN.out (by show resOk r = false; rw [resOk, decide_eq_false_iff_not]; omega))
                go_wp2_with fail
                go_ret2
                exact ⟨ret_line HF.out.1.symm HF.out.2.symm, HB.out⟩
              · by_cases hr1 : 32 < r
                ·
                  have HF : Hid (lineS ⟨t, tn, ac, an, ob, r⟩ = ⟨#[]⟩ ∧ lineE ⟨t, tn, ac, an, ob, r⟩ = 2) := Lib.hid (line_res HT.out HN.out (by show resOk r = false; rw [resOk, decide_eq_false_iff_not]; omega))
                  go_wp2_with fail
                  go_ret2
                  exact ⟨ret_line HF.out.1.symm HF.out.2.symm, HB.out⟩
                · have HR : Hid (resOk r = true) := Lib.hid (by rw [resOk, decide_eq_true_iff]; omega)
                  have HOK : Hid (lineE ⟨t, tn, ac, an, ob, r⟩ = 0) := Lib.hid (lineE_mk (e := ⟨t, tn, ac, an, ob, r⟩) HT.out HN.out HR.out)
                  have HZ := Lib.hid (evParts_size (e := ⟨t, tn, ac, an, ob, r⟩) HT.out HN.out HR.out)
                  have ht := validT_in HT.out
                  have hc0 : (w.alloc (.cells #[.int .i64 t, .string tn, .string ac, .string an, .string ob, .int .i64 r] 24)).heap.size = w.heap.size + 1 := by simp
                  go_wp2_with fail
                  go_region_held3 (fun w' => w'.cell? ⟨w.heap.size, 0, none⟩ = some (.int .i64 t) ∧ w'.cell? ⟨w.heap.size, 1, none⟩ = some (.string tn) ∧ w'.cell? ⟨w.heap.size, 2, none⟩ = some (.string ac) ∧ w'.cell? ⟨w.heap.size, 3, none⟩ = some (.string an) ∧ w'.cell? ⟨w.heap.size, 4, none⟩ = some (.string ob) ∧ w'.cell? ⟨w.heap.size, 5, none⟩ = some (.int .i64 r))
                    (first | go_keep | (exact box_cells w t r tn ac an ob _ rfl) | (exact box_below (box_cells w t r tn ac an ob _ rfl) hb1 (by simp)) | (exact box_below (box_below (box_cells w t r tn ac an ob _ rfl) hb1 (by simp)) hb2 (by have := hb1.size; simp at this; omega)) | (exact box_below (box_below (box_below (box_cells w t r tn ac an ob _ rfl) hb1 (by simp)) hb2 (by have := hb1.size; simp at this; omega)) ((Below.refl _ _).alloc (Nat.le_refl _) _) (by have := hb1.size; have := hb2.size; simp at *; omega)) | (exact box_three (box_cells w t r tn ac an ob _ rfl) (by simp) hb1 hb2 hb3))
                    (first
                      | (go_at_call_of 48 (Value.int IntKind.i64 t); refine (cint_any t _ (by omega) (by omega) ?_).mono ?_; exact pow_drew (hp.below HB.out); rintro e w1 ⟨rfl, hb1⟩)
                      | (go_at_call_of 48 (Value.int IntKind.i64 r); refine (cint_any r _ (by omega) (by omega) ?_).mono ?_; exact (pow_drew (hp.below HB.out)).below hb1; rintro e w2 ⟨rfl, hb2⟩)
                      | (go_at_call 47; refine (cjoin_any (evParts ⟨t, tn, ac, an, ob, r⟩) (some ⟨w2.heap.size, 0, none⟩) 6 _ ?_ (by simp [evParts]) ?_).mono ?_; exact six_new _ _ _ _ _ _ _; exact (fun s hs => Nat.le_trans (HZ.out s hs) (by decide)); rintro e w3 ⟨rfl, hb3⟩))
                  all_goals
                    go_wp2_with fail
                    go_ret2
                    refine ⟨ret_line (lineS_ok HOK.out).symm HOK.out.symm, ?_⟩
                    exact ((HB.out.drew.trans (hb1.mono (by simp))).trans (hb2.mono (by have := hb1.size; simp at this; omega))).alloc (by have := hb1.size; have := hb2.size; simp at *; omega) _ |>.trans (hb3.mono (by have := hb1.size; have := hb2.size; simp at *; omega))
        · have eac : ac.toList.isEmpty = false := nonempty_size hac
          have hwac : optW ac = wordS ac := by rw [optW, decide_eq_false hac, Bool.false_or]
          have HWac := Lib.hid hwac
          clear hac hwac
          go_wp2_with fail
          refine (word_any ac _ (by omega)).mono ?_
          rintro e wsame ⟨rfl, rfl⟩
          cases hac : wordS ac
          ·
            have HC0 : Hid (optW ac = false) := Lib.hid (by rw [HWac.out, hac])
            clear hac
            have HF : Hid (lineS ⟨t, tn, ac, an, ob, r⟩ = ⟨#[]⟩ ∧ lineE ⟨t, tn, ac, an, ob, r⟩ = 5) := Lib.hid (line_name (e := ⟨t, tn, ac, an, ob, r⟩) HT.out (by rw [evNames]; simp [H1.out, H2.out, HC0.out]))
            go_wp2_with fail
            go_ret2
            exact ⟨ret_line HF.out.1.symm HF.out.2.symm, HB.out⟩
          ·
            have HC0 : Hid (optW ac = true) := Lib.hid (by rw [HWac.out, hac])
            clear hac
            by_cases hob : ob.size = 0
            · have HC1 : Hid (optW ob = true) := Lib.hid (by rw [optW, decide_eq_true hob, Bool.true_or])
              have eob : ob.toList.isEmpty = true := empty_size hob
              have gob : ob.toList = [] := by rwa [List.isEmpty_iff] at eob
              clear hob
              have HN : Hid (evNames ⟨t, tn, ac, an, ob, r⟩ = true) := Lib.hid (by rw [evNames]; simp [H1.out, H2.out, HC0.out, HC1.out])
              by_cases hr0 : r < 0
              ·
                have HF : Hid (lineS ⟨t, tn, ac, an, ob, r⟩ = ⟨#[]⟩ ∧ lineE ⟨t, tn, ac, an, ob, r⟩ = 2) := Lib.hid (line_res HT.out HN.out (by show resOk r = false; rw [resOk, decide_eq_false_iff_not]; omega))
                go_wp2_with fail
                go_ret2
                exact ⟨ret_line HF.out.1.symm HF.out.2.symm, HB.out⟩
              · by_cases hr1 : 32 < r
                ·
                  have HF : Hid (lineS ⟨t, tn, ac, an, ob, r⟩ = ⟨#[]⟩ ∧ lineE ⟨t, tn, ac, an, ob, r⟩ = 2) := Lib.hid (line_res HT.out HN.out (by show resOk r = false; rw [resOk, decide_eq_false_iff_not]; omega))
                  go_wp2_with fail
                  go_ret2
                  exact ⟨ret_line HF.out.1.symm HF.out.2.symm, HB.out⟩
                · have HR : Hid (resOk r = true) := Lib.hid (by rw [resOk, decide_eq_true_iff]; omega)
                  have HOK : Hid (lineE ⟨t, tn, ac, an, ob, r⟩ = 0) := Lib.hid (lineE_mk (e := ⟨t, tn, ac, an, ob, r⟩) HT.out HN.out HR.out)
                  have HZ := Lib.hid (evParts_size (e := ⟨t, tn, ac, an, ob, r⟩) HT.out HN.out HR.out)
                  have ht := validT_in HT.out
                  have hc0 : (w.alloc (.cells #[.int .i64 t, .string tn, .string ac, .string an, .string ob, .int .i64 r] 24)).heap.size = w.heap.size + 1 := by simp
                  go_wp2_with fail
                  go_region_held3 (fun w' => w'.cell? ⟨w.heap.size, 0, none⟩ = some (.int .i64 t) ∧ w'.cell? ⟨w.heap.size, 1, none⟩ = some (.string tn) ∧ w'.cell? ⟨w.heap.size, 2, none⟩ = some (.string ac) ∧ w'.cell? ⟨w.heap.size, 3, none⟩ = some (.string an) ∧ w'.cell? ⟨w.heap.size, 4, none⟩ = some (.string ob) ∧ w'.cell? ⟨w.heap.size, 5, none⟩ = some (.int .i64 r))
                    (first | go_keep | (exact box_cells w t r tn ac an ob _ rfl) | (exact box_below (box_cells w t r tn ac an ob _ rfl) hb1 (by simp)) | (exact box_below (box_below (box_cells w t r tn ac an ob _ rfl) hb1 (by simp)) hb2 (by have := hb1.size; simp at this; omega)) | (exact box_below (box_below (box_below (box_cells w t r tn ac an ob _ rfl) hb1 (by simp)) hb2 (by have := hb1.size; simp at this; omega)) ((Below.refl _ _).alloc (Nat.le_refl _) _) (by have := hb1.size; have := hb2.size; simp at *; omega)) | (exact box_three (box_cells w t r tn ac an ob _ rfl) (by simp) hb1 hb2 hb3))
                    (first
                      | (go_at_call_of 48 (Value.int IntKind.i64 t); refine (cint_any t _ (by omega) (by omega) ?_).mono ?_; exact pow_drew (hp.below HB.out); rintro e w1 ⟨rfl, hb1⟩)
                      | (go_at_call_of 48 (Value.int IntKind.i64 r); refine (cint_any r _ (by omega) (by omega) ?_).mono ?_; exact (pow_drew (hp.below HB.out)).below hb1; rintro e w2 ⟨rfl, hb2⟩)
                      | (go_at_call 47; refine (cjoin_any (evParts ⟨t, tn, ac, an, ob, r⟩) (some ⟨w2.heap.size, 0, none⟩) 6 _ ?_ (by simp [evParts]) ?_).mono ?_; exact six_new _ _ _ _ _ _ _; exact (fun s hs => Nat.le_trans (HZ.out s hs) (by decide)); rintro e w3 ⟨rfl, hb3⟩))
                  all_goals
                    go_wp2_with fail
                    go_ret2
                    refine ⟨ret_line (lineS_ok HOK.out).symm HOK.out.symm, ?_⟩
                    exact ((HB.out.drew.trans (hb1.mono (by simp))).trans (hb2.mono (by have := hb1.size; simp at this; omega))).alloc (by have := hb1.size; have := hb2.size; simp at *; omega) _ |>.trans (hb3.mono (by have := hb1.size; have := hb2.size; simp at *; omega))
            · have eob : ob.toList.isEmpty = false := nonempty_size hob
              have hwob : optW ob = wordS ob := by rw [optW, decide_eq_false hob, Bool.false_or]
              have HWob := Lib.hid hwob
              clear hob hwob
              go_wp2_with fail
              refine (word_any ob _ (by omega)).mono ?_
              rintro e wsame ⟨rfl, rfl⟩
              cases hob : wordS ob
              ·
                have HC1 : Hid (optW ob = false) := Lib.hid (by rw [HWob.out, hob])
                clear hob
                have HF : Hid (lineS ⟨t, tn, ac, an, ob, r⟩ = ⟨#[]⟩ ∧ lineE ⟨t, tn, ac, an, ob, r⟩ = 5) := Lib.hid (line_name (e := ⟨t, tn, ac, an, ob, r⟩) HT.out (by rw [evNames]; simp [H1.out, H2.out, HC0.out, HC1.out]))
                go_wp2_with fail
                go_ret2
                exact ⟨ret_line HF.out.1.symm HF.out.2.symm, HB.out⟩
              ·
                have HC1 : Hid (optW ob = true) := Lib.hid (by rw [HWob.out, hob])
                clear hob
                have HN : Hid (evNames ⟨t, tn, ac, an, ob, r⟩ = true) := Lib.hid (by rw [evNames]; simp [H1.out, H2.out, HC0.out, HC1.out])
                by_cases hr0 : r < 0
                ·
                  have HF : Hid (lineS ⟨t, tn, ac, an, ob, r⟩ = ⟨#[]⟩ ∧ lineE ⟨t, tn, ac, an, ob, r⟩ = 2) := Lib.hid (line_res HT.out HN.out (by show resOk r = false; rw [resOk, decide_eq_false_iff_not]; omega))
                  go_wp2_with fail
                  go_ret2
                  exact ⟨ret_line HF.out.1.symm HF.out.2.symm, HB.out⟩
                · by_cases hr1 : 32 < r
                  ·
                    have HF : Hid (lineS ⟨t, tn, ac, an, ob, r⟩ = ⟨#[]⟩ ∧ lineE ⟨t, tn, ac, an, ob, r⟩ = 2) := Lib.hid (line_res HT.out HN.out (by show resOk r = false; rw [resOk, decide_eq_false_iff_not]; omega))
                    go_wp2_with fail
                    go_ret2
                    exact ⟨ret_line HF.out.1.symm HF.out.2.symm, HB.out⟩
                  · have HR : Hid (resOk r = true) := Lib.hid (by rw [resOk, decide_eq_true_iff]; omega)
                    have HOK : Hid (lineE ⟨t, tn, ac, an, ob, r⟩ = 0) := Lib.hid (lineE_mk (e := ⟨t, tn, ac, an, ob, r⟩) HT.out HN.out HR.out)
                    have HZ := Lib.hid (evParts_size (e := ⟨t, tn, ac, an, ob, r⟩) HT.out HN.out HR.out)
                    have ht := validT_in HT.out
                    have hc0 : (w.alloc (.cells #[.int .i64 t, .string tn, .string ac, .string an, .string ob, .int .i64 r] 24)).heap.size = w.heap.size + 1 := by simp
                    go_wp2_with fail
                    go_region_held3 (fun w' => w'.cell? ⟨w.heap.size, 0, none⟩ = some (.int .i64 t) ∧ w'.cell? ⟨w.heap.size, 1, none⟩ = some (.string tn) ∧ w'.cell? ⟨w.heap.size, 2, none⟩ = some (.string ac) ∧ w'.cell? ⟨w.heap.size, 3, none⟩ = some (.string an) ∧ w'.cell? ⟨w.heap.size, 4, none⟩ = some (.string ob) ∧ w'.cell? ⟨w.heap.size, 5, none⟩ = some (.int .i64 r))
                      (first | go_keep | (exact box_cells w t r tn ac an ob _ rfl) | (exact box_below (box_cells w t r tn ac an ob _ rfl) hb1 (by simp)) | (exact box_below (box_below (box_cells w t r tn ac an ob _ rfl) hb1 (by simp)) hb2 (by have := hb1.size; simp at this; omega)) | (exact box_below (box_below (box_below (box_cells w t r tn ac an ob _ rfl) hb1 (by simp)) hb2 (by have := hb1.size; simp at this; omega)) ((Below.refl _ _).alloc (Nat.le_refl _) _) (by have := hb1.size; have := hb2.size; simp at *; omega)) | (exact box_three (box_cells w t r tn ac an ob _ rfl) (by simp) hb1 hb2 hb3))
                      (first
                        | (go_at_call_of 48 (Value.int IntKind.i64 t); refine (cint_any t _ (by omega) (by omega) ?_).mono ?_; exact pow_drew (hp.below HB.out); rintro e w1 ⟨rfl, hb1⟩)
                        | (go_at_call_of 48 (Value.int IntKind.i64 r); refine (cint_any r _ (by omega) (by omega) ?_).mono ?_; exact (pow_drew (hp.below HB.out)).below hb1; rintro e w2 ⟨rfl, hb2⟩)
                        | (go_at_call 47; refine (cjoin_any (evParts ⟨t, tn, ac, an, ob, r⟩) (some ⟨w2.heap.size, 0, none⟩) 6 _ ?_ (by simp [evParts]) ?_).mono ?_; exact six_new _ _ _ _ _ _ _; exact (fun s hs => Nat.le_trans (HZ.out s hs) (by decide)); rintro e w3 ⟨rfl, hb3⟩))
                    all_goals
                      go_wp2_with fail
                      go_ret2
                      refine ⟨ret_line (lineS_ok HOK.out).symm HOK.out.symm, ?_⟩
                      exact ((HB.out.drew.trans (hb1.mono (by simp))).trans (hb2.mono (by have := hb1.size; simp at this; omega))).alloc (by have := hb1.size; have := hb2.size; simp at *; omega) _ |>.trans (hb3.mono (by have := hb1.size; have := hb2.size; simp at *; omega))
set_option maxHeartbeats 8000000 in
set_option maxRecDepth 100000 in
theorem rline_any (x : Ev) (w : World) (hin : EvIn x) :
    Calls Tryz.prog 13 #[evV x] w fun e w' => e = .returned (.tuple #[.string (lineS x), .int .i64 (lineE x)]) ∧ Below w.heap.size w w' := by
  obtain ⟨t, tn, ac, an, ob, r⟩ := x
  obtain ⟨q1, q2, q3, q4, q5, q6, q7, q8⟩ := hin
  have q1 : -9223372036854775808 ≤ t := q1
  have q2 : t ≤ 9223372036854775807 := q2
  have q3 : -9223372036854775808 ≤ r := q3
  have q4 : r ≤ 9223372036854775807 := q4
  have q5 : tn.size ≤ 9223372036854775807 := q5
  have q6 : ac.size ≤ 9223372036854775807 := q6
  have q7 : an.size ≤ 9223372036854775807 := q7
  have q8 : ob.size ≤ 9223372036854775807 := q8
  have HB : Hid (Below w.heap.size w (w.alloc (.cells #[.int .i64 t, .string tn, .string ac, .string an, .string ob, .int .i64 r] 24))) := Lib.hid ((Below.refl _ _).alloc (Nat.le_refl _) _)
  show Calls Tryz.prog 13 #[.agg #[.int .i64 t, .string tn, .string ac, .string an, .string ob, .int .i64 r]] w _
  go_enter Tryz.func13, Tryz.ntmps13
  go_wp2_with fail
  refine (rvalidT_any t _).mono ?_
  rintro e wsame ⟨rfl, rfl⟩
  cases hT : validT t
  ·
    have HT := Lib.hid hT
    clear hT
    have HF : Hid (lineS ⟨t, tn, ac, an, ob, r⟩ = ⟨#[]⟩ ∧ lineE ⟨t, tn, ac, an, ob, r⟩ = 2) := Lib.hid (line_time (e := ⟨t, tn, ac, an, ob, r⟩) HT.out)
    go_wp2_with fail
    go_ret2
    exact ⟨ret_line HF.out.1.symm HF.out.2.symm, HB.out⟩
  ·
    have HT := Lib.hid hT
    clear hT
    go_wp2_with fail
    refine (rword_any tn _ (by omega)).mono ?_
    rintro e wsame ⟨rfl, rfl⟩
    cases h1 : wordS tn
    ·
      have H1 := Lib.hid h1
      clear h1
      have HF : Hid (lineS ⟨t, tn, ac, an, ob, r⟩ = ⟨#[]⟩ ∧ lineE ⟨t, tn, ac, an, ob, r⟩ = 5) := Lib.hid (line_name (e := ⟨t, tn, ac, an, ob, r⟩) HT.out (by rw [evNames]; simp [H1.out]))
      go_wp2_with fail
      go_ret2
      exact ⟨ret_line HF.out.1.symm HF.out.2.symm, HB.out⟩
    ·
      have H1 := Lib.hid h1
      clear h1
      go_wp2_with fail
      refine (rword_any an _ (by omega)).mono ?_
      rintro e wsame ⟨rfl, rfl⟩
      cases h2 : wordS an
      ·
        have H2 := Lib.hid h2
        clear h2
        have HF : Hid (lineS ⟨t, tn, ac, an, ob, r⟩ = ⟨#[]⟩ ∧ lineE ⟨t, tn, ac, an, ob, r⟩ = 5) := Lib.hid (line_name (e := ⟨t, tn, ac, an, ob, r⟩) HT.out (by rw [evNames]; simp [H1.out, H2.out]))
        go_wp2_with fail
        go_ret2
        exact ⟨ret_line HF.out.1.symm HF.out.2.symm, HB.out⟩
      ·
        have H2 := Lib.hid h2
        clear h2
        have HC0a := Lib.hid (optional_any ac (w.alloc (.cells #[.int .i64 t, .string tn, .string ac, .string an, .string ob, .int .i64 r] 24)) (by omega))
        go_wp2_with fail
        refine (HC0a.out).mono ?_
        rintro e wsame ⟨rfl, rfl⟩
        cases hac : optW ac
        ·
          have HC0 := Lib.hid hac
          clear hac
          have HF : Hid (lineS ⟨t, tn, ac, an, ob, r⟩ = ⟨#[]⟩ ∧ lineE ⟨t, tn, ac, an, ob, r⟩ = 5) := Lib.hid (line_name (e := ⟨t, tn, ac, an, ob, r⟩) HT.out (by rw [evNames]; simp [H1.out, H2.out, HC0.out]))
          go_wp2_with fail
          go_ret2
          exact ⟨ret_line HF.out.1.symm HF.out.2.symm, HB.out⟩
        ·
          have HC0 := Lib.hid hac
          clear hac
          have HC1a := Lib.hid (optional_any ob (w.alloc (.cells #[.int .i64 t, .string tn, .string ac, .string an, .string ob, .int .i64 r] 24)) (by omega))
          go_wp2_with fail
          refine (HC1a.out).mono ?_
          rintro e wsame ⟨rfl, rfl⟩
          cases hob : optW ob
          ·
            have HC1 := Lib.hid hob
            clear hob
            have HF : Hid (lineS ⟨t, tn, ac, an, ob, r⟩ = ⟨#[]⟩ ∧ lineE ⟨t, tn, ac, an, ob, r⟩ = 5) := Lib.hid (line_name (e := ⟨t, tn, ac, an, ob, r⟩) HT.out (by rw [evNames]; simp [H1.out, H2.out, HC0.out, HC1.out]))
            go_wp2_with fail
            go_ret2
            exact ⟨ret_line HF.out.1.symm HF.out.2.symm, HB.out⟩
          ·
            have HC1 := Lib.hid hob
            clear hob
            have HN : Hid (evNames ⟨t, tn, ac, an, ob, r⟩ = true) := Lib.hid (by rw [evNames]; simp [H1.out, H2.out, HC0.out, HC1.out])
            by_cases hr0 : r < 0
            ·
              have HF : Hid (lineS ⟨t, tn, ac, an, ob, r⟩ = ⟨#[]⟩ ∧ lineE ⟨t, tn, ac, an, ob, r⟩ = 2) := Lib.hid (line_res HT.out HN.out (by show resOk r = false; rw [resOk, decide_eq_false_iff_not]; omega))
              go_wp2_with fail
              go_ret2
              exact ⟨ret_line HF.out.1.symm HF.out.2.symm, HB.out⟩
            · by_cases hr1 : 32 < r
              ·
                have HF : Hid (lineS ⟨t, tn, ac, an, ob, r⟩ = ⟨#[]⟩ ∧ lineE ⟨t, tn, ac, an, ob, r⟩ = 2) := Lib.hid (line_res HT.out HN.out (by show resOk r = false; rw [resOk, decide_eq_false_iff_not]; omega))
                go_wp2_with fail
                go_ret2
                exact ⟨ret_line HF.out.1.symm HF.out.2.symm, HB.out⟩
              · have HR : Hid (resOk r = true) := Lib.hid (by rw [resOk, decide_eq_true_iff]; omega)
                have HOK : Hid (lineE ⟨t, tn, ac, an, ob, r⟩ = 0) := Lib.hid (lineE_mk (e := ⟨t, tn, ac, an, ob, r⟩) HT.out HN.out HR.out)
                have HZ := Lib.hid (evParts_size (e := ⟨t, tn, ac, an, ob, r⟩) HT.out HN.out HR.out)
                have ht := validT_in HT.out
                have hc0 : (w.alloc (.cells #[.int .i64 t, .string tn, .string ac, .string an, .string ob, .int .i64 r] 24)).heap.size = w.heap.size + 1 := by simp
                go_wp2_with fail
                go_region_held3 (fun w' => w'.cell? ⟨w.heap.size, 0, none⟩ = some (.int .i64 t) ∧ w'.cell? ⟨w.heap.size, 1, none⟩ = some (.string tn) ∧ w'.cell? ⟨w.heap.size, 2, none⟩ = some (.string ac) ∧ w'.cell? ⟨w.heap.size, 3, none⟩ = some (.string an) ∧ w'.cell? ⟨w.heap.size, 4, none⟩ = some (.string ob) ∧ w'.cell? ⟨w.heap.size, 5, none⟩ = some (.int .i64 r))
                  (first | go_keep | (exact box_cells w t r tn ac an ob _ rfl) | (exact box_below (box_cells w t r tn ac an ob _ rfl) hb1 (by simp)) | (exact box_below (box_below (box_cells w t r tn ac an ob _ rfl) hb1 (by simp)) hb2 (by have := hb1.size; simp at this; omega)) | (exact box_below (box_below (box_below (box_cells w t r tn ac an ob _ rfl) hb1 (by simp)) hb2 (by have := hb1.size; simp at this; omega)) ((Below.refl _ _).alloc (Nat.le_refl _) _) (by have := hb1.size; have := hb2.size; simp at *; omega)) | (exact box_three (box_cells w t r tn ac an ob _ rfl) (by simp) hb1 hb2 hb3))
                  (first
                    | (go_at_call_of 53 (Value.int IntKind.i64 t); refine (rint_any t _ (by omega) (by omega)).mono ?_; rintro e w1 ⟨rfl, hb1⟩)
                    | (go_at_call_of 53 (Value.int IntKind.i64 r); refine (rint_any r _ (by omega) (by omega)).mono ?_; rintro e w2 ⟨rfl, hb2⟩)
                    | (go_at_call 52; refine (rjoin_any (evParts ⟨t, tn, ac, an, ob, r⟩) (some ⟨w2.heap.size, 0, none⟩) 6 _ ?_ (by simp [evParts]) ?_).mono ?_; exact six_new _ _ _ _ _ _ _; exact (fun s hs => Nat.le_trans (HZ.out s hs) (by decide)); rintro e w3 ⟨rfl, hb3⟩))
                all_goals
                  go_wp2_with fail
                  go_ret2
                  refine ⟨ret_line (lineS_ok HOK.out).symm HOK.out.symm, ?_⟩
                  exact ((HB.out.drew.trans (hb1.mono (by simp))).trans (hb2.mono (by have := hb1.size; simp at this; omega))).alloc (by have := hb1.size; have := hb2.size; simp at *; omega) _ |>.trans (hb3.mono (by have := hb1.size; have := hb2.size; simp at *; omega))
end Go.Proofs.YthdpkfddmkijlaaGreatDoor

/- The chain of heads: plain laws. -/
namespace Go.Proofs.YthdpkfddmkijlaaGreatDoor
open Go.RowKit

/-- The last string that was digested; the lines stand in reverse order. -/
def topR : List ByteArray → ByteArray
  | [] => ⟨#[]⟩
  | s :: L => textS (topR L) ++ barS ++ s
/-- All strings that were digested, the last one first. -/
def digR : List ByteArray → List ByteArray
  | [] => [⟨#[]⟩]
  | s :: L => topR (s :: L) :: digR L
theorem digR_top (L : List ByteArray) : ∃ t, digR L = topR L :: t := by
  cases L with
  | nil => exact ⟨[], rfl⟩
  | cons s L => exact ⟨digR L, rfl⟩
theorem digR_len (L : List ByteArray) : (digR L).length = L.length + 1 := by
  induction L with
  | nil => rfl
  | cons s L ih => rw [digR, List.length_cons, ih, List.length_cons]
/-- Two strings at equal distances from the ends differ and have one digest. -/
def collR : List ByteArray → List ByteArray → Bool
  | x :: a, y :: b => (decide (x ≠ y) && decide (textS x = textS y)) || collR a b
  | _, _ => false
theorem collR_here {L M : List ByteArray} (h : topR L ≠ topR M) (ht : textS (topR L) = textS (topR M)) : collR (digR L) (digR M) = true := by
  obtain ⟨t, h1⟩ := digR_top L
  obtain ⟨u, h2⟩ := digR_top M
  rw [h1, h2, collR, decide_eq_true h, decide_eq_true ht]; rfl
theorem top_parts {a b s r : ByteArray} (h : textS a ++ barS ++ s = textS b ++ barS ++ r) : textS a = textS b ∧ s = r := by
  have e1 := textS_size a
  have e2 := textS_size b
  have h' := congrArg (fun x : ByteArray => x.data.toList) h
  simp only [ByteArray.data_append, Array.toList_append, List.append_assoc] at h'
  have l1 : (textS a).data.toList.length = (textS b).data.toList.length := by
    have f1 : (textS a).data.toList.length = (textS a).size := by simp
    have f2 : (textS b).data.toList.length = (textS b).size := by simp
    omega
  have g1 := List.append_inj_left h' l1
  have g2 := List.append_inj_right h' l1
  have g3 := List.append_cancel_left g2
  exact ⟨ByteArray.ext (Array.toList_inj.1 g1), ByteArray.ext (Array.toList_inj.1 g3)⟩
theorem top_ne (s : ByteArray) (L : List ByteArray) : topR (s :: L) ≠ ⟨#[]⟩ := by
  intro h
  have := congrArg ByteArray.size h
  rw [topR, ByteArray.size_append, ByteArray.size_append, textS_size] at this
  have e : (⟨#[]⟩ : ByteArray).size = 0 := rfl
  omega
theorem detect : ∀ L M : List ByteArray, textS (topR L) = textS (topR M) → L = M ∨ collR (digR L) (digR M) = true := by
  intro L
  induction L with
  | nil =>
    intro M ht
    cases M with
    | nil => exact .inl rfl
    | cons r M => exact .inr (collR_here (fun h => top_ne r M h.symm) ht)
  | cons s L ih =>
    intro M ht
    cases M with
    | nil => exact .inr (collR_here (top_ne s L) ht)
    | cons r M =>
      by_cases h : topR (s :: L) = topR (r :: M)
      · obtain ⟨h1, h2⟩ := top_parts h
        subst h2
        rcases ih M h1 with h3 | h3
        · exact .inl (by rw [h3])
        · exact .inr (by rw [digR, digR, collR, h3, Bool.or_true])
      · exact .inr (collR_here h ht)
/-- Another last line: another last head, or two strings with one digest. -/
theorem found {L : List ByteArray} {s r : ByteArray} (h : s ≠ r) : textS (topR (s :: L)) ≠ textS (topR (r :: L)) ∨ collR (digR (s :: L)) (digR (r :: L)) = true := by
  by_cases ht : textS (topR (s :: L)) = textS (topR (r :: L))
  · exact .inr (collR_here (fun e => h (top_parts e).2) ht)
  · exact .inl ht
/-- The head after events is the digest of the last string. -/
theorem head_top (h : ByteArray) (L : List ByteArray) (hL : h = textS (topR L)) (l : List Ev) : headF h l = textS (topR ((l.map lineS).reverse ++ L)) := by
  induction l generalizing h L with
  | nil => rw [hL]; rfl
  | cons e l ih =>
    have h2 : chainS h (lineS e) = textS (topR (lineS e :: L)) := by rw [hL]; rfl
    show headF (chainS h (lineS e)) l = _
    rw [ih _ (lineS e :: L) h2]
    simp
theorem head_start (l : List Ev) : headF startS l = textS (topR (l.map lineS).reverse) := by
  have := head_top startS [] rfl l
  rwa [List.append_nil] at this
theorem heads_len (h : ByteArray) (l : List Ev) : (headsF h l).length = l.length := by
  induction l generalizing h with
  | nil => rfl
  | cons e l ih => rw [headsF, List.length_cons, ih, List.length_cons]
theorem heads_at (h : ByteArray) (l : List Ev) (i : Nat) (hi : i < l.length) : (headsF h l)[i]'(by rw [heads_len]; exact hi) = headF h (l.take (i + 1)) := by
  induction l generalizing h i with
  | nil => simp at hi
  | cons e l ih =>
    cases i with
    | zero => simp [headsF, headF]
    | succ i =>
      simp only [headsF, List.getElem_cons_succ]
      rw [ih _ i (by simpa using hi)]
      rfl
theorem headF_snoc (h : ByteArray) (l : List Ev) (e : Ev) : headF h (l ++ [e]) = chainS (headF h l) (lineS e) := by
  rw [headF, List.foldl_append]; rfl
theorem headsF_snoc (h : ByteArray) (l : List Ev) (e : Ev) : headsF h (l ++ [e]) = headsF h l ++ [chainS (headF h l) (lineS e)] := by
  induction l generalizing h with
  | nil => rfl
  | cons x l ih => rw [List.cons_append, headsF, headsF, ih]; rfl
theorem firstE_all {l : List Ev} : firstE l = 0 ↔ ∀ e ∈ l, lineE e = 0 := by
  induction l with
  | nil => simp [firstE]
  | cons e l ih =>
    by_cases h : lineE e = 0
    · rw [firstE, if_pos h, ih]; simp [h]
    · rw [firstE, if_neg h]
      constructor
      · intro h2; exact absurd h2 h
      · intro h2; exact absurd (h2 e (by simp)) h
theorem firstE_take {l : List Ev} {k : Nat} (hk : k < l.length) (h : firstE (l.take k) = 0) (he : lineE l[k] ≠ 0) : firstE l = lineE l[k] := by
  induction l generalizing k with
  | nil => simp at hk
  | cons e l ih =>
    cases k with
    | zero => rw [firstE, if_neg (by simpa using he)]; rfl
    | succ k =>
      rw [List.take_succ_cons, firstE] at h
      by_cases h0 : lineE e = 0
      · rw [if_pos h0] at h
        rw [firstE, if_pos h0, ih (by simpa using hk) h (by simpa using he)]; rfl
      · rw [if_neg h0] at h; exact absurd h h0
theorem ver_self (l : List Ev) (h : ByteArray) (n : Nat) (hl : ∀ e ∈ l, lineE e = 0) : verF h n l (headsF h l) = none := by
  induction l generalizing h n with
  | nil => rfl
  | cons e l ih =>
    rw [headsF, verF, if_pos ⟨hl e (by simp), rfl⟩]
    exact ih _ _ (fun x hx => hl x (List.mem_cons_of_mem _ hx))
theorem ver_found (l : List Ev) (e : Ev) (i : Nat) (hi : i < l.length) (h : ByteArray) (n : Nat) (hl : ∀ x ∈ l, lineE x = 0) (hne : chainS (headF h (l.take i)) (lineS l[i]) ≠ chainS (headF h (l.take i)) (lineS e)) :
    verF h n (l.set i e) (headsF h l) = some (n + i) := by
  induction l generalizing h n i with
  | nil => simp at hi
  | cons x l ih =>
    cases i with
    | zero =>
      rw [List.set_cons_zero, headsF, verF, if_neg]
      · rfl
      · rintro ⟨_, h2⟩; exact hne h2
    | succ i =>
      rw [List.set_cons_succ, headsF, verF, if_pos ⟨hl x (by simp), rfl⟩]
      rw [ih i (by simpa using hi) _ _ (fun y hy => hl y (List.mem_cons_of_mem _ hy)) (by simpa [headF] using hne)]
      congr 1; omega
theorem lines_inj {a b : List Ev} (ha : ∀ e ∈ a, lineE e = 0) (hb : ∀ e ∈ b, lineE e = 0) (h : a.map lineS = b.map lineS) : a = b := by
  induction a generalizing b with
  | nil =>
    cases b with
    | nil => rfl
    | cons y b => simp at h
  | cons x a ih =>
    cases b with
    | nil => simp at h
    | cons y b =>
      simp only [List.map_cons, List.cons.injEq] at h
      have h1 := lineS_inj (ha x (by simp)) (hb y (by simp)) h.1
      have h2 := ih (fun e he => ha e (List.mem_cons_of_mem _ he)) (fun e he => hb e (List.mem_cons_of_mem _ he)) h.2
      rw [h1, h2]
/-- Where Verify stands before event k, h the head. -/
def Ver (l : List Ev) (hs : List ByteArray) (k : Nat) (h : ByteArray) : Prop := verF startS 0 l hs = verF h k (l.drop k) (hs.drop k)
theorem Ver.start (l : List Ev) (hs : List ByteArray) : Ver l hs 0 startS := rfl
theorem ver_eq {l : List Ev} {hs : List ByteArray} {o : Option Nat} (h : verF startS 0 l hs = o) : verS l hs = verC o := by rw [verS, h]
theorem Ver.short {l : List Ev} {hs : List ByteArray} {k : Nat} {h : ByteArray} (hv : Ver l hs k h) (hk : k < l.length) (hh : hs.length ≤ k) : verS l hs = (k : Int) := by
  have e : verF startS 0 l hs = some k := by
    rw [hv, List.drop_eq_getElem_cons hk, List.drop_eq_nil_of_le hh]; rfl
  exact ver_eq e
theorem Ver.bad {l : List Ev} {hs : List ByteArray} {k : Nat} {h : ByteArray} (hv : Ver l hs k h) (hk : k < l.length) (he : lineE l[k] ≠ 0) : verS l hs = (k : Int) := by
  by_cases hh : hs.length ≤ k
  · exact hv.short hk hh
  · have e : verF startS 0 l hs = some k := by
      rw [hv, List.drop_eq_getElem_cons hk, List.drop_eq_getElem_cons (show k < hs.length by omega), verF, if_neg (fun h => he h.1)]
    exact ver_eq e
theorem Ver.other {l : List Ev} {hs : List ByteArray} {k : Nat} {h : ByteArray} (hv : Ver l hs k h) (hk : k < l.length) (hh : k < hs.length) (he : hs[k] ≠ chainS h (lineS l[k])) : verS l hs = (k : Int) := by
  have e : verF startS 0 l hs = some k := by
    rw [hv, List.drop_eq_getElem_cons hk, List.drop_eq_getElem_cons hh, verF, if_neg (fun h => he h.2)]
  exact ver_eq e
theorem Ver.next {l : List Ev} {hs : List ByteArray} {k : Nat} {h : ByteArray} (hv : Ver l hs k h) (hk : k < l.length) (hh : k < hs.length) (he : lineE l[k] = 0) (hx : hs[k] = chainS h (lineS l[k])) : Ver l hs (k + 1) (chainS h (lineS l[k])) := by
  unfold Ver at hv ⊢
  rw [hv, List.drop_eq_getElem_cons hk, List.drop_eq_getElem_cons hh, verF, if_pos ⟨he, hx⟩]
theorem Ver.end {l : List Ev} {hs : List ByteArray} {k : Nat} {h : ByteArray} (hv : Ver l hs k h) (hk : k = l.length) : verS l hs = if l.length < hs.length then (l.length : Int) else -1 := by
  subst hk
  unfold Ver at hv
  rw [List.drop_length] at hv
  by_cases hh : l.length < hs.length
  · rw [if_pos hh]
    rw [List.drop_eq_getElem_cons hh] at hv
    exact ver_eq hv
  · rw [if_neg hh]
    rw [List.drop_eq_nil_of_le (by omega)] at hv
    exact ver_eq hv
theorem headF_size (l : List Ev) : (headF startS l).size = 16 := by rw [head_start]; exact textS_size _
theorem headF_take {l : List Ev} {k : Nat} (hk : k < l.length) (h : ByteArray) : headF h (l.take (k + 1)) = chainS (headF h (l.take k)) (lineS l[k]) := by
  rw [List.take_succ_eq_append_getElem hk, headF_snoc]
theorem headsF_take {l : List Ev} {k : Nat} (hk : k < l.length) (h : ByteArray) : headsF h (l.take (k + 1)) = headsF h (l.take k) ++ [chainS (headF h (l.take k)) (lineS l[k])] := by
  rw [List.take_succ_eq_append_getElem hk, headsF_snoc]
theorem firstE_snoc {l : List Ev} {k : Nat} (hk : k < l.length) (h : firstE (l.take k) = 0) (he : lineE l[k] = 0) : firstE (l.take (k + 1)) = 0 := by
  rw [firstE_all] at h ⊢
  rw [List.take_succ_eq_append_getElem hk]
  intro x hx
  rw [List.mem_append, List.mem_singleton] at hx
  rcases hx with hx | rfl
  · exact h x hx
  · exact he
theorem chainS_size (p s : ByteArray) : (chainS p s).size = 16 := textS_size _
end Go.Proofs.YthdpkfddmkijlaaGreatDoor

