/- The reference's Crash, where there is no row. -/
import Derived.Test.YtkhdhelhkokdcaaDoorJrnRCrash0
namespace Go.Proofs.YtkhdhelhkokdcaaDoor
open Go.RowKit
set_option maxHeartbeats 4000000 in
set_option maxRecDepth 100000 in
theorem rcrash_n (keep : Int) (w : World) (B g : Nat) (hv : RSt w B g (.slice none 0 0) [] 0) (hB : B ≤ w.heap.size) :
    Calls Tryd.prog 41 #[.pointer (some ⟨g, 0, none⟩), .int .i64 keep] w fun e w' => e = .returned (.tuple #[]) ∧ CrashR w B g [] 0 keep w' := by
  obtain ⟨i0, hi, hz0, hz1, hz2⟩ := info_parts Tryd.info_s
  have HM := Lib.hid (rmade_any w B g 0 _ [] hv)
  obtain ⟨⟨hBg, hblk, hrec, hne⟩, hdl, hz⟩ := hv
  have c0 : w.cell? ⟨g, 1, none⟩ = some (.slice none 0 0) := blk_cell hblk 1
  have c1 : w.cell? ⟨g, 2, none⟩ = some (.int .i64 0) := blk_cell hblk 2
  have hgl := blk_lt hblk
  have HBK := Lib.hid hblk
  have HZD : Hid (∀ r ∈ ([] : List ByteArray), r.size ≤ 4096) := Lib.hid hz
  have hen := fun wq c => rbytes_any [] none 0 wq c (by simp) HZD.out
  have HSD : Hid (Strs w none []) := Lib.hid (Strs.nil_ _ _)
  have HEN := Lib.hid hen
  clear hblk hz hen hrec hne
  go_enter Tryd.func41, Tryd.ntmps41
  go_wp2_with fail
  refine (Calls.mono HM.out ?_)
  rintro e w1 ⟨rfl, rfl⟩
  go_wp2_with fail
  go_region_held3 (fun w' => w'.cell? ⟨g, 1, none⟩ = some (.slice none 0 0) ∧ w'.cell? ⟨g, 2, none⟩ = some (.int .i64 0))
    (first | go_keep | (exact ⟨(hb2.cell (p := ⟨g, 1, none⟩) hgl).trans c0, (hb2.cell (p := ⟨g, 2, none⟩) hgl).trans c1⟩))
    (first | (go_at_call 38; refine (HEN.out _ ?_).mono ?_; exact HSD.out.drew; rintro e w2 ⟨rfl, hb2⟩))
  have HB2 : Hid (Below w.heap.size w w2) := Lib.hid ((Below.refl w.heap.size w).drew.trans hb2)
  have hsz : (encB ([] : List ByteArray)).size ≤ 900000 := by
    rw [encB_size]
    have h5 := encL_le [] HZD.out
    have h6 : ([] : List ByteArray).length ≤ 200 := by simp
    omega
  have HDZ : Hid (((encB ([] : List ByteArray)).extract 0 (keepK (encB ([] : List ByteArray)).size keep)).size ≤ 1000000) := Lib.hid (by rw [ByteArray.size_extract]; omega)
  have HDEC := Lib.hid (fun wq => rdecode_any ((encB ([] : List ByteArray)).extract 0 (keepK (encB ([] : List ByteArray)).size keep)) wq HDZ.out)
  have hkm := keep_max2 (encB ([] : List ByteArray)).size keep
  have hkl := keep_le (encB ([] : List ByteArray)).size keep
  have HXX : Hid ((encB ([] : List ByteArray)) = (encB ([] : List ByteArray))) := rfl
  obtain ⟨X, HX⟩ : ∃ X, Hid ((encB ([] : List ByteArray)) = X) := ⟨_, Lib.hid rfl⟩
  rw [HX.out] at hkm hkl hsz HDEC
  rw [HX.out]
  clear HXX hb2
  go_wp2_with fail
  refine (Calls.mono (HDEC.out _) ?_)
  rintro e w3 ⟨⟨v2, m, n, rfl, hown, hD, hnil⟩, hb3⟩
  have HB3 : Hid (Below w.heap.size w w3) := Lib.hid (bthen HB2.out hb3)
  have hk3 := (HB3.out.block g hgl).trans HBK.out
  have j0 : w3.cell? ⟨g, 1, none⟩ = some (.slice none 0 0) := blk_cell hk3 1
  have j1 : w3.cell? ⟨g, 2, none⟩ = some (.int .i64 0) := blk_cell hk3 2
  have f0 := blk_frozen hk3 1
  have f1 := blk_frozen hk3 2
  have hgl3 := blk_lt hk3
  have HD : Hid (Dec ((encB ([] : List ByteArray)).extract 0 (keepK (encB ([] : List ByteArray)).size keep)) m n) := Lib.hid (by rw [HX.out]; exact hD)
  have HK3 := Lib.hid hk3
  have HOW := Lib.hid hown
  have hml : m.length ≤ 100000 := by have := HD.out.len.1; have := HD.out.le; have := HDZ.out; omega
  clear hb3 hk3 hD c0 c1
  have HOE := Lib.hid (own_empty w3 w.heap.size HB3.out.size)
  have HBA := Lib.hid ((HB3.out.alloc HB3.out.size (.cells #[] 9)).drew)
  have q0 : (w3.alloc (.cells #[] 9)).drew.cell? ⟨g, 1, none⟩ = some (.slice none 0 0) := blk_cell ((HBA.out.block g hgl).trans HBK.out) 1
  obtain rfl : m = [] := by
    have h1 := HD.out.len.1
    have h2 := HD.out.le
    have h3 : (encB ([] : List ByteArray)).size = 0 := rfl
    rw [ByteArray.size_extract, h3] at h2
    exact List.eq_nil_of_length_eq_zero (by omega)
  obtain rfl := hnil rfl
  have hkA := (HBA.out.block g hgl).trans HBK.out
  have HFin : Hid (CrashR w B g [] 0 keep (((w3.setCell ⟨g, 1, none⟩ (.slice (some ⟨w3.heap.size, 0, none⟩) 0 0)).setCell ⟨g, 2, none⟩ (.int .i64 0)).alloc (.cells #[] 9)).drew) := Lib.hid (by
    have := crashr_of (m := []) (d := 0) (v' := .slice (some ⟨w3.heap.size, 0, none⟩) 0 0) hBg hgl hB HBA.out hkA ⟨n, HD.out⟩ (fun x hx => by simp at hx) (by simpa [strVs] using HOE.out.drew)
    have e : ∀ u z, ((w3.alloc (.cells #[] 9)).drew.setCell ⟨g, 1, none⟩ u).setCell ⟨g, 2, none⟩ z = (((w3.setCell ⟨g, 1, none⟩ u).setCell ⟨g, 2, none⟩ z).alloc (.cells #[] 9)).drew := by
      intro u z
      show (((w3.alloc (.cells #[] 9)).setCell ⟨g, 1, none⟩ u).setCell ⟨g, 2, none⟩ z).drew = _
      rw [World.setCell_alloc_past _ _ _ _ hgl3, World.setCell_alloc_past _ _ _ _ (by simpa using hgl3)]
    rw [e] at this
    simpa using this)
  clear hnil hown hkA
  go_wp2_with fail
  go_region_law (first | fail | fail)
  all_goals
    go_wp2_with fail
    go_end0
    refine ⟨rfl, ?_⟩
    exact HFin.out
end Go.Proofs.YtkhdhelhkokdcaaDoor
