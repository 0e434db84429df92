/- The reference's Crash, where none is durable. -/
import Derived.Test.YtkhdhelhkokdcaaDoorJrnRCrash0
namespace Go.Proofs.YtkhdhelhkokdcaaDoor
open Go.RowKit
set_option maxHeartbeats 4000000 in
set_option maxRecDepth 100000 in
theorem rcrash_z (keep : Int) (w : World) (B g b cap : Nat) (l : List ByteArray) (hv : RSt w B g (.slice (some ⟨b, 0, none⟩) l.length cap) l 0) (_hcap : l.length ≤ cap) (hs : Strs w (some ⟨b, 0, none⟩) l) (hB : B ≤ w.heap.size) (hl : l.length ≤ 200) :
    Calls Tryd.prog 41 #[.pointer (some ⟨g, 0, none⟩), .int .i64 keep] w fun e w' => e = .returned (.tuple #[]) ∧ CrashR w B g l 0 keep w' := by
  obtain ⟨i0, hi, hz0, hz1, hz2⟩ := info_parts Tryd.info_s
  have HM := Lib.hid (rmade_any w B g 0 _ l hv)
  obtain ⟨⟨hBg, hblk, hrec, hne⟩, hdl, hz⟩ := hv
  have c0 : w.cell? ⟨g, 1, none⟩ = some (.slice (some ⟨b, 0, none⟩) l.length cap) := blk_cell hblk 1
  have c1 : w.cell? ⟨g, 2, none⟩ = some (.int .i64 0) := blk_cell hblk 2
  have hgl := blk_lt hblk
  have HBK := Lib.hid hblk
  have HZD : Hid (∀ r ∈ l, r.size ≤ 4096) := Lib.hid hz
  have hen := fun wq c => rbytes_any (l) (some ⟨b, 0, none⟩) cap wq c (by omega) HZD.out
  have HSD := Lib.hid hs
  have HEN := Lib.hid hen
  have i2 : (0 : Int) ≤ (l.length : Int) := by omega
  have i3 : (0 : Int) ≤ (cap : Int) := by omega
  clear hblk hz hs hen hrec hne
  go_enter Tryd.func41, Tryd.ntmps41
  go_wp2_with fail
  refine (Calls.mono HM.out ?_)
  rintro e w1 ⟨rfl, rfl⟩
  go_wp2_with fail
  go_region_held3 (fun w' => w'.cell? ⟨g, 1, none⟩ = some (.slice (some ⟨b, 0, none⟩) l.length cap) ∧ w'.cell? ⟨g, 2, none⟩ = some (.int .i64 0))
    (first | go_keep | (exact ⟨(hb2.cell (p := ⟨g, 1, none⟩) hgl).trans c0, (hb2.cell (p := ⟨g, 2, none⟩) hgl).trans c1⟩))
    (first | (go_at_call 38; refine (HEN.out _ ?_).mono ?_; exact HSD.out.drew; rintro e w2 ⟨rfl, hb2⟩))
  have HB2 : Hid (Below w.heap.size w w2) := Lib.hid ((Below.refl w.heap.size w).drew.trans hb2)
  have hsz : (encB (l)).size ≤ 900000 := by
    rw [encB_size]
    have h5 := encL_le (l) HZD.out
    have h6 : l.length ≤ 200 := hl
    omega
  have HDZ : Hid (((encB (l)).extract 0 (keepK (encB (l)).size keep)).size ≤ 1000000) := Lib.hid (by rw [ByteArray.size_extract]; omega)
  have HDEC := Lib.hid (fun wq => rdecode_any ((encB (l)).extract 0 (keepK (encB (l)).size keep)) wq HDZ.out)
  have hkm := keep_max2 (encB (l)).size keep
  have hkl := keep_le (encB (l)).size keep
  have HXX : Hid ((encB (l)) = (encB (l))) := rfl
  obtain ⟨X, HX⟩ : ∃ X, Hid ((encB (l)) = X) := ⟨_, Lib.hid rfl⟩
  rw [HX.out] at hkm hkl hsz HDEC
  rw [HX.out]
  clear HXX hb2
  go_wp2_with fail
  refine (Calls.mono (HDEC.out _) ?_)
  rintro e w3 ⟨⟨v2, m, n, rfl, hown, hD, hnil⟩, hb3⟩
  have HB3 : Hid (Below w.heap.size w w3) := Lib.hid (bthen HB2.out hb3)
  have hk3 := (HB3.out.block g hgl).trans HBK.out
  have j0 : w3.cell? ⟨g, 1, none⟩ = some (.slice (some ⟨b, 0, none⟩) l.length cap) := blk_cell hk3 1
  have j1 : w3.cell? ⟨g, 2, none⟩ = some (.int .i64 0) := blk_cell hk3 2
  have f0 := blk_frozen hk3 1
  have f1 := blk_frozen hk3 2
  have hgl3 := blk_lt hk3
  have HD : Hid (Dec ((encB (l)).extract 0 (keepK (encB (l)).size keep)) m n) := Lib.hid (by rw [HX.out]; exact hD)
  have HK3 := Lib.hid hk3
  have HOW := Lib.hid hown
  have hml : m.length ≤ 100000 := by have := HD.out.len.1; have := HD.out.le; have := HDZ.out; omega
  clear hb3 hk3 hD c0 c1
  have HOE := Lib.hid (own_empty w3 w.heap.size HB3.out.size)
  have HBA := Lib.hid ((HB3.out.alloc HB3.out.size (.cells #[] 9)).drew)
  have q0 : (w3.alloc (.cells #[] 9)).drew.cell? ⟨g, 1, none⟩ = some (.slice (some ⟨b, 0, none⟩) l.length cap) := blk_cell ((HBA.out.block g hgl).trans HBK.out) 1
  by_cases hm : m = []
  · obtain rfl := hnil hm
    subst hm
    have hkA := (HBA.out.block g hgl).trans HBK.out
    have HFin : Hid (CrashR w B g l 0 keep (((w3.setCell ⟨g, 1, none⟩ (.slice (some ⟨w3.heap.size, 0, none⟩) 0 0)).setCell ⟨g, 2, none⟩ (.int .i64 0)).alloc (.cells #[] 9)).drew) := Lib.hid (by
      have := crashr_of (m := []) (d := 0) (v' := .slice (some ⟨w3.heap.size, 0, none⟩) 0 0) hBg hgl hB HBA.out hkA ⟨n, HD.out⟩ (fun x hx => by simp at hx) (by simpa [strVs] using HOE.out.drew)
      have e : ∀ u z, ((w3.alloc (.cells #[] 9)).drew.setCell ⟨g, 1, none⟩ u).setCell ⟨g, 2, none⟩ z = (((w3.setCell ⟨g, 1, none⟩ u).setCell ⟨g, 2, none⟩ z).alloc (.cells #[] 9)).drew := by
        intro u z
        show (((w3.alloc (.cells #[] 9)).setCell ⟨g, 1, none⟩ u).setCell ⟨g, 2, none⟩ z).drew = _
        rw [World.setCell_alloc_past _ _ _ _ hgl3, World.setCell_alloc_past _ _ _ _ (by simpa using hgl3)]
      rw [e] at this
      simpa using this)
    clear hnil hown hkA
    go_wp2_with fail
    go_region_law (first | fail | fail)
    all_goals
      go_wp2_with fail
      go_end0
      refine ⟨rfl, ?_⟩
      exact HFin.out
  · obtain ⟨q, cq, hvq, _, _⟩ := hown.form (by have := List.length_pos_iff.2 hm; omega)
    subst hvq
    have HSM := Lib.hid (Strs.own HOW.out rfl (strVs_at m))
    have hmp := List.length_pos_iff.2 hm
    clear hnil hown hm
    go_wp2_with fail
    go_region_law (first
      | (refine step_append_lies _ (by rfl) _ _ _ (by rfl) w.heap.size 9 i0 _ 1 16 Tryd.underlying23 hi hz0 hz1 hz2 rfl (by omega) _ 0 [] (by rfl) ?_ ⟨q, 0, none⟩ m.length cq (strVs m) (by rfl) ?_ ?_ (strVs_one m) hmp (by unfold maxLen; omega) (by omega) ?_ (w3.heap.size + 1) ?_ ?_; exact HOE.out.drew; (rw [strVs_len]; omega); exact strs_at (HSM.out.alloc _).drew; (have := HB3.out.size; simp; omega); simp; (intro g5 cap5 w5 ho5 hg5 hat5 hlt5); (rw [Nat.zero_add, List.nil_append] at ho5); (have HB5 : Hid (Below w.heap.size w w5) := Lib.hid (HBA.out.grown hg5 HBA.out.size (fun q hq => (HOE.out.lt q hq).1))); (have hk5 := (HB5.out.block g hgl).trans HBK.out); (have r0 : w5.cell? ⟨g, 1, none⟩ = some _ := blk_cell hk5 1); (have r1 : w5.cell? ⟨g, 2, none⟩ = some (.int .i64 0) := blk_cell hk5 2); (have rf0 := blk_frozen hk5 1); (have rf1 := blk_frozen hk5 2); (have HK5 := Lib.hid hk5); (have HO5 := Lib.hid ho5); clear hk5 ho5 hg5 hat5 hlt5)
      | fail)
    all_goals
      go_wp2_with fail
      go_end0
      refine ⟨rfl, ?_⟩
      have := crashr_of (d := 0) (v' := .slice (some ⟨g5, 0, none⟩) m.length cap5) hBg hgl hB HB5.out HK5.out ⟨n, HD.out⟩ (by simpa using HD.out.small) (by simpa using HO5.out)
      simpa using this
end Go.Proofs.YtkhdhelhkokdcaaDoor
