/- The reference's Records and Append: rows made anew. -/
import Derived.Test.YtkhdhelhkokdcaaDoorJrnOps
namespace Go.Proofs.YtkhdhelhkokdcaaDoor
open Go.RowKit

theorem own_empty (w : World) (B : Nat) (hB : B ≤ w.heap.size) : (w.alloc (.cells #[] 9)).ownsRow B 9 1 (.slice (some ⟨w.heap.size, 0, none⟩) 0 0) 0 [] :=
  ⟨rfl, .inr ⟨w.heap.size, 0, #[], rfl, hB, heap_alloc_new w _, Nat.le_refl _, Nat.zero_le _, rfl, rfl⟩⟩
theorem strs_at {w : World} {b : Nat} {l : List ByteArray} (h : Strs w (some ⟨b, 0, none⟩) l) : ∀ j u, (strVs l)[j]? = some u → w.cell? ((⟨b, 0, none⟩ : Addr).add j) = some u := by
  intro j u hu
  rw [addr_add, ← strs_row h j u hu, Nat.zero_add]
theorem strVs_one (l : List ByteArray) : ∀ u ∈ strVs l, u.oneCell' = true := by
  intro u hu
  rw [strVs, List.mem_map] at hu
  obtain ⟨s, _, rfl⟩ := hu
  rfl
theorem cell_one_at (w : World) (x : Value) (t : TypeId) (n : Nat) (h : w.heap.size = n) : ∀ j u, [x][j]? = some u → (w.alloc (.cells #[x] t)).cell? ((⟨n, 0, none⟩ : Addr).add j) = some u := by
  subst h; exact cell_one_new w x t
theorem rmade_any (w : World) (B g d : Nat) (v : Value) (l : List ByteArray) (h : RSt w B g v l d) :
    Calls Tryd.prog 36 #[.pointer (some ⟨g, 0, none⟩)] w fun e w' => e = .returned (.bool true) ∧ w = w' := by
  have c0 : w.cell? ⟨g, 0, none⟩ = some (.bool true) := blk_cell h.1.2.1 0
  clear h
  go_enter Tryd.func36, Tryd.ntmps36
  go_wp2_with fail
  go_ret
  exact ⟨rfl, rfl⟩
set_option maxHeartbeats 2000000 in
set_option maxRecDepth 100000 in
theorem rrecords_any (w : World) (B g d : Nat) (v : Value) (l : List ByteArray) (h : RSt w B g v l d) (hl : l.length ≤ 4000) :
    Calls Tryd.prog 19 #[.pointer (some ⟨g, 0, none⟩)] w fun e w' => RetStrs w.heap.size w' e l ∧ Below w.heap.size w w' := by
  obtain ⟨i0, hi, hz0, hz1, hz2⟩ := info_parts Tryd.info_s
  have HM := Lib.hid (rmade_any w B g d v l h)
  obtain ⟨⟨hBg, hblk, hrec, hne⟩, hdl, hz⟩ := h
  obtain ⟨A, cap, hv, hs, hcap, hA, hA0⟩ := hrec.strs
  have c1 : w.cell? ⟨g, 1, none⟩ = some v := blk_cell hblk 1
  have hgl := blk_lt hblk
  have hwa := (Below.refl w.heap.size w).alloc (Nat.le_refl _) (.cells #[] 9)
  have HWA := Lib.hid hwa
  have HOE := Lib.hid (own_empty w w.heap.size (Nat.le_refl _))
  have HSA := Lib.hid (hs.alloc (.cells #[] 9))
  subst hv
  clear hblk hrec hne hz hs hwa
  rcases A with _ | p
  · obtain rfl := hA0 rfl
    clear hA hA0
    go_enter Tryd.func19, Tryd.ntmps19
    go_wp2_with fail
    refine (Calls.mono HM.out ?_)
    rintro e w1 ⟨rfl, rfl⟩
    go_wp2_with fail
    go_ret
    exact ⟨⟨_, _, rfl, Strs.nil_ _ _, fun p hp => by cases hp; exact Nat.le_refl _⟩, HWA.out⟩
  · obtain ⟨b, rfl, _⟩ := hA p rfl
    clear hA hA0
    go_enter Tryd.func19, Tryd.ntmps19
    go_wp2_with fail
    refine (Calls.mono HM.out ?_)
    rintro e w1 ⟨rfl, rfl⟩
    go_wp2_with (at_builtin; refine wpList_append_own_at _ rfl _ _ 23 rfl w.heap.size 9 i0 (.string ByteArray.empty) 1 16 Tryd.underlying23 hi hz0 hz1 hz2 rfl (by decide) _ _ _ rfl HOE.out ⟨b, 0, none⟩ l.length cap (strVs l) rfl (by simp [strVs_len]) (strs_at HSA.out) (strVs_one l) (by unfold maxLen; omega) (by omega) (by simp) ?_; intro v' w2 ho2 hg2 _ hob2; have HO2 := Lib.hid ho2; have HG2 := Lib.hid hg2; clear ho2 hg2 hob2)
    go_ret
    refine ⟨?_, ?_⟩
    · have h := HO2.out
      rw [Nat.zero_add, List.nil_append] at h
      exact RetStrs.own h rfl (strVs_at l)
    · exact (HWA.out.grown HG2.out (by simp) (fun q hq => (HOE.out.lt q hq).1))
/-- How the reference's journal stands when its records have been stored. -/
theorem appr_of {w w2 : World} {B g d d' : Nat} {v v' : Value} {m : List ByteArray} (hBg : B ≤ g) (hblk : w.heap[g]? = some (.cells #[.bool true, v, .int .i64 d] 62 (0, 0))) (hd : d' ≤ m.length) (hz : ∀ x ∈ m, x.size ≤ 4096)
    (hb : Below w.heap.size w w2) (hown : w2.ownsRow w.heap.size 9 1 v' m.length (strVs m)) (hB : B ≤ w.heap.size) :
    ∀ w3, w3 = w2.setCell ⟨g, 1, none⟩ v' → w3.heap[g]? = some (.cells #[.bool true, v', .int .i64 d] 62 (0, 0)) → d' = d → AppR w B g m d' w3 := by
  rintro w3 rfl h3 rfl
  have hg := blk_lt hblk
  have hfr : ∀ i, v'.ownBlock = some i → w.heap.size ≤ i := fun i hi => (hown.lt i hi).1
  have hne' : v'.ownBlock ≠ some g := fun e => by have := hfr g e; omega
  refine ⟨v', ⟨⟨hBg, h3, .inl ?_, hne'⟩, hd, hz⟩, (Only.of_below hb g none).setCell 1 v', hfr⟩
  exact (own_keep hown (fun i hi => Below.heap_setCell w2 ⟨g, 1, none⟩ v' i (fun e => hne' (by rw [hi]; exact congrArg some e)))).mono hB
set_option maxHeartbeats 4000000 in
set_option maxRecDepth 100000 in
theorem rappend_ok (r : ByteArray) (w : World) (B g d : Nat) (v : Value) (l : List ByteArray) (h : RSt w B g v l d) (hB : B ≤ w.heap.size) (hl : l.length ≤ 4000) (hr : r.size ≤ 4096) :
    Calls Tryd.prog 39 #[.pointer (some ⟨g, 0, none⟩), .string r] w fun e w' => e = .returned (.int .i64 0) ∧ AppR w B g (l ++ [r]) d w' := by
  obtain ⟨i0, hi, hz0, hz1, hz2⟩ := info_parts Tryd.info_s
  have HM := Lib.hid (rmade_any w B g d v l h)
  obtain ⟨⟨hBg, hblk, hrec, hne⟩, hdl, hz⟩ := h
  obtain ⟨A, cap, hv, hs, hcap, hA, hA0⟩ := hrec.strs
  have c1 : w.cell? ⟨g, 1, none⟩ = some v := blk_cell hblk 1
  have hgl := blk_lt hblk
  have HBK := Lib.hid hblk
  have HZ := Lib.hid hz
  have hwa := (Below.refl w.heap.size w).alloc (Nat.le_refl _) (.cells #[] 9)
  have HWA := Lib.hid hwa
  have HOE := Lib.hid (own_empty w w.heap.size (Nat.le_refl _))
  have HSA := Lib.hid (hs.alloc (.cells #[] 9))
  have t1 : decide ((4096 : Int) < (r.size : Int)) = false := decide_eq_false (by omega)
  have t2 : decide ((4096 : Int) ≤ (l.length : Int)) = false := decide_eq_false (by omega)
  subst hv
  clear hblk hrec hne hz hs hwa
  rcases A with _ | p
  · obtain rfl := hA0 rfl
    clear hA hA0
    go_enter Tryd.func39, Tryd.ntmps39
    go_wp2_with fail
    refine (Calls.mono HM.out ?_)
    rintro e w1 ⟨rfl, rfl⟩
    go_wp2_with (at_builtin; refine wpList_append_own_at _ rfl _ _ 23 rfl w.heap.size 9 i0 (.string ByteArray.empty) 1 16 Tryd.underlying23 hi hz0 hz1 hz2 rfl (by decide) _ _ _ rfl (HOE.out.alloc _) ⟨w.heap.size + 1, 0, none⟩ 1 1 [strV r] rfl rfl (cell_one_at (w.alloc (.cells #[] 9)) (strV r) 9 (w.heap.size + 1) (by simp)) (by intro u hu; simp at hu; subst hu; rfl) (by unfold maxLen; omega) (by omega) (by simp; omega) ?_; intro v3 w3 ho3 hg3 _ hob3; have HB3 : Hid (Below w.heap.size w w3) := Lib.hid ((HWA.out.alloc HWA.out.size _).grown hg3 (by have := HWA.out.size; simp; omega) (fun q hq => (HOE.out.lt q hq).1)); have hk3 := (HB3.out.block g hgl).trans HBK.out; have k0 : w3.cell? ⟨g, 1, none⟩ = some _ := blk_cell hk3 1; have f0 := blk_frozen hk3 1; obtain ⟨qb, qc, hqv, _⟩ := ho3.form (by omega); subst hqv; have HK3 := Lib.hid hk3; have HO3 := Lib.hid ho3; clear hk3 ho3 hg3 hob3)
    go_ret
    have h := HO3.out
    rw [Nat.zero_add] at h
    exact ⟨rfl, appr_of (m := [] ++ [r]) hBg HBK.out (by simp at hdl ⊢; omega) (small_snoc HZ.out hr) HB3.out h hB _ rfl (by rw [blk_set HK3.out]; rfl) rfl⟩
  · obtain ⟨b, rfl, _⟩ := hA p rfl
    clear hA hA0
    go_enter Tryd.func39, Tryd.ntmps39
    go_wp2_with fail
    refine (Calls.mono HM.out ?_)
    rintro e w1 ⟨rfl, rfl⟩
    go_wp2_with (first
      | (at_builtin; refine wpList_append_own_at _ rfl _ _ 23 rfl w.heap.size 9 i0 (.string ByteArray.empty) 1 16 Tryd.underlying23 hi hz0 hz1 hz2 rfl (by decide) _ _ _ rfl (HO2.out.alloc _) ⟨w2.heap.size, 0, none⟩ 1 1 [strV r] rfl rfl (cell_one_new _ _ _) (by intro u hu; simp at hu; subst hu; rfl) (by unfold maxLen; omega) (by omega) (by have := HB2.out.size; simp; omega) ?_; intro v3 w3 ho3 hg3 _ hob3; have HB3 : Hid (Below w.heap.size w w3) := Lib.hid ((HB2.out.alloc HB2.out.size _).grown hg3 (by have := HB2.out.size; simp; omega) (fun q hq => (HO2.out.lt q hq).1)); have hk3 := (HB3.out.block g hgl).trans HBK.out; have k0 : w3.cell? ⟨g, 1, none⟩ = some _ := blk_cell hk3 1; have f0 := blk_frozen hk3 1; obtain ⟨qb, qc, hqv, _⟩ := ho3.form (by omega); subst hqv; have HK3 := Lib.hid hk3; have HO3 := Lib.hid ho3; clear hk3 ho3 hg3 hob3)
      | (at_builtin; refine wpList_append_own_at _ rfl _ _ 23 rfl w.heap.size 9 i0 (.string ByteArray.empty) 1 16 Tryd.underlying23 hi hz0 hz1 hz2 rfl (by decide) _ _ _ rfl HOE.out ⟨b, 0, none⟩ l.length cap (strVs l) rfl (by simp [strVs_len]) (strs_at HSA.out) (strVs_one l) (by unfold maxLen; omega) (by omega) (by simp) ?_; intro v2 w2 ho2 hg2 _ hob2; have HO2 := Lib.hid ho2; have HB2 : Hid (Below w.heap.size w w2) := Lib.hid (HWA.out.grown hg2 (by simp) (fun q hq => (HOE.out.lt q hq).1)); clear ho2 hg2 hob2))
    go_ret
    have h := HO3.out
    rw [Nat.zero_add, List.nil_append, strVs_snoc] at h
    exact ⟨rfl, appr_of (m := l ++ [r]) hBg HBK.out (by simp; omega) (small_snoc HZ.out hr) HB3.out (by rw [List.length_append]; exact h) hB _ rfl (by rw [blk_set HK3.out]; rfl) rfl⟩
set_option maxHeartbeats 2000000 in
set_option maxRecDepth 100000 in
theorem rappend_big (r : ByteArray) (w : World) (B g d : Nat) (v : Value) (l : List ByteArray) (h : RSt w B g v l d) (hr : 4096 < r.size) :
    Calls Tryd.prog 39 #[.pointer (some ⟨g, 0, none⟩), .string r] w fun e w' => e = .returned (.int .i64 3) ∧ w = w' := by
  have HM := Lib.hid (rmade_any w B g d v l h)
  have t1 : decide ((4096 : Int) < (r.size : Int)) = true := decide_eq_true (by omega)
  clear h
  go_enter Tryd.func39, Tryd.ntmps39
  go_wp2_with fail
  refine (Calls.mono HM.out ?_)
  rintro e w1 ⟨rfl, rfl⟩
  go_wp2_with fail
  go_ret
  exact ⟨rfl, rfl⟩
set_option maxHeartbeats 2000000 in
set_option maxRecDepth 100000 in
theorem rsync_any (w : World) (B g d : Nat) (v : Value) (l : List ByteArray) (h : RSt w B g v l d) :
    Calls Tryd.prog 40 #[.pointer (some ⟨g, 0, none⟩)] w fun e w' => e = .returned (.int .i64 l.length) ∧ RSt w' B g v l l.length ∧ Only w w' g none := by
  have HM := Lib.hid (rmade_any w B g d v l h)
  obtain ⟨⟨hBg, hblk, hrec, hne⟩, hd, hz⟩ := h
  obtain ⟨A, cap, hv, _⟩ := hrec.strs
  have c1 : w.cell? ⟨g, 1, none⟩ = some v := blk_cell hblk 1
  have c2 : w.cell? ⟨g, 2, none⟩ = some (.int .i64 d) := blk_cell hblk 2
  have f2 := blk_frozen hblk 2
  have HF : Hid (RSt (w.setCell ⟨g, 2, none⟩ (.int .i64 l.length)) B g v l l.length ∧ Only w (w.setCell ⟨g, 2, none⟩ (.int .i64 l.length)) g none) := Lib.hid ⟨⟨⟨hBg, by rw [blk_set hblk]; rfl, hrec.keep (by simp [World.setCell]) (fun i hi => Below.heap_setCell w ⟨g, 2, none⟩ _ i (fun e => hne (by rw [hi]; exact congrArg some e))), hne⟩, Nat.le_refl _, hz⟩, (Only.refl w g none).setCell 2 _⟩
  subst hv
  clear hblk hrec hne hz
  go_enter Tryd.func40, Tryd.ntmps40
  go_wp2_with fail
  refine (Calls.mono HM.out ?_)
  rintro e w1 ⟨rfl, rfl⟩
  go_wp2_with fail
  go_ret
  exact ⟨rfl, HF.out⟩
theorem rdurable_any (w : World) (B g d : Nat) (v : Value) (l : List ByteArray) (h : RSt w B g v l d) :
    Calls Tryd.prog 21 #[.pointer (some ⟨g, 0, none⟩)] w fun e w' => e = .returned (.int .i64 d) ∧ w = w' := by
  have HM := Lib.hid (rmade_any w B g d v l h)
  have c2 : w.cell? ⟨g, 2, none⟩ = some (.int .i64 d) := blk_cell h.1.2.1 2
  clear h
  go_enter Tryd.func21, Tryd.ntmps21
  go_wp2_with fail
  refine (Calls.mono HM.out ?_)
  rintro e w1 ⟨rfl, rfl⟩
  go_wp2_with fail
  go_ret
  exact ⟨rfl, rfl⟩
set_option maxHeartbeats 2000000 in
set_option maxRecDepth 100000 in
theorem rbytes2_any (w : World) (B g d : Nat) (v : Value) (l : List ByteArray) (h : RSt w B g v l d) (hl : l.length ≤ 4000) :
    Calls Tryd.prog 23 #[.pointer (some ⟨g, 0, none⟩)] w fun e w' => e = .returned (.string (encB (l.take d))) ∧ Below w.heap.size w w' := by
  have HM := Lib.hid (rmade_any w B g d v l h)
  obtain ⟨⟨hBg, hblk, hrec, hne⟩, hdl, hz⟩ := h
  obtain ⟨A, cap, hv, hs, hcap, _⟩ := hrec.strs
  have c0 : w.cell? ⟨g, 1, none⟩ = some v := blk_cell hblk 1
  have c1 : w.cell? ⟨g, 2, none⟩ = some (.int .i64 d) := blk_cell hblk 2
  have HS := Lib.hid (strs_take hs d)
  have HZ : Hid (∀ r ∈ l.take d, r.size ≤ 4096) := Lib.hid (fun r hr => hz r (List.mem_of_mem_take hr))
  have hlen : (l.take d).length = d := by rw [List.length_take]; omega
  have hen := fun wq c => rbytes_any (l.take d) A cap wq c (by omega) HZ.out
  rw [hlen] at hen
  have HEN := Lib.hid hen
  subst hv
  have hgl := blk_lt hblk
  have i1 : (0 : Int) ≤ (d : Int) := by omega
  have i2 : (d : Int) ≤ (cap : Int) := by omega
  have hdc : d ≤ cap := by omega
  clear hblk hrec hne hz hs hlen hen
  go_enter Tryd.func23, Tryd.ntmps23
  go_wp2_with fail
  refine (Calls.mono HM.out ?_)
  rintro e w1 ⟨rfl, rfl⟩
  go_wp2_with fail
  go_region_held3 (fun w' => w'.cell? ⟨g, 1, none⟩ = some (.slice A l.length cap) ∧ w'.cell? ⟨g, 2, none⟩ = some (.int .i64 d))
    (first | go_keep | (exact ⟨(hb2.cell (p := ⟨g, 1, none⟩) hgl).trans c0, (hb2.cell (p := ⟨g, 2, none⟩) hgl).trans c1⟩))
    (first | (go_at_call 38; refine (HEN.out _ ?_).mono ?_; exact HS.out.drew; rintro e w2 ⟨rfl, hb2⟩))
  go_wp2_with fail
  go_ret
  exact ⟨rfl, (Below.refl w.heap.size w).drew.trans hb2⟩
end Go.Proofs.YtkhdhelhkokdcaaDoor
