/- The reference's Crash, where the row is full. -/
import Derived.Test.YtkhdhelhkokdcaaDoorJrnRCrash0
namespace Go.Proofs.YtkhdhelhkokdcaaDoor
open Go.RowKit
set_option maxHeartbeats 4000000 in
set_option maxRecDepth 100000 in
theorem rcrash_b (keep : Int) (w : World) (B g d b : Nat) (l : List ByteArray) (hv : RSt w B g (.slice (some ⟨b, 0, none⟩) d d) l d) (hld : l.length = d) (hs : Strs w (some ⟨b, 0, none⟩) l) (hB : B ≤ w.heap.size) (hl : l.length ≤ 200) (hd0 : 0 < d) :
    Calls Tryd.prog 41 #[.pointer (some ⟨g, 0, none⟩), .int .i64 keep] w fun e w' => e = .returned (.tuple #[]) ∧ CrashR w B g l d keep w' := by
  obtain ⟨i0, hi, hz0, hz1, hz2⟩ := info_parts Tryd.info_s
  have HM := Lib.hid (rmade_any w B g d _ l hv)
  obtain ⟨⟨hBg, hblk, hrec, hne⟩, hdl, hz⟩ := hv
  have c0 : w.cell? ⟨g, 1, none⟩ = some (.slice (some ⟨b, 0, none⟩) d d) := blk_cell hblk 1
  have c1 : w.cell? ⟨g, 2, none⟩ = some (.int .i64 ((d : Nat) : Int)) := blk_cell hblk 2
  have hgl := blk_lt hblk
  have HBK := Lib.hid hblk
  have HZ := Lib.hid hz
  have HS := Lib.hid hs
  have HZD : Hid (∀ r ∈ l.drop d, r.size ≤ 4096) := Lib.hid (fun r hr => hz r (List.mem_of_mem_drop hr))
  have hlen : (l.drop d).length = 0 := by simp; omega
  have hen := fun wq c => rbytes_any (l.drop d) (some ⟨b, 0, none⟩) 0 wq c (by rw [hlen]; omega) HZD.out
  rw [hlen] at hen
  have HSD : Hid (Strs w (some ⟨b, 0, none⟩) (l.drop d)) := Lib.hid (fun i hi => absurd hi (by omega))
  have HLD := Lib.hid hld
  have HEN := Lib.hid hen
  have i1 : (0 : Int) ≤ (d : Int) := by omega
  have hd200 : d ≤ 200 := by omega
  have hcb : b < w.heap.size := by
    obtain ⟨b', o', e, hc⟩ := hs 0 (by omega)
    injection e with e; injection e with e1 e2
    subst e1
    exact World.block_lt_of_cell? w _ hc
  clear hblk hz hs hlen hen hrec hne hld hdl
  go_enter Tryd.func41, Tryd.ntmps41
  go_wp2_with fail
  refine (Calls.mono HM.out ?_)
  rintro e w1 ⟨rfl, rfl⟩
  go_wp2_with fail
  go_region_held3 (fun w' => w'.cell? ⟨g, 1, none⟩ = some (.slice (some ⟨b, 0, none⟩) d d) ∧ w'.cell? ⟨g, 2, none⟩ = some (.int .i64 (d : Int)))
    (first | go_keep | (exact ⟨(hb2.cell (p := ⟨g, 1, none⟩) hgl).trans c0, (hb2.cell (p := ⟨g, 2, none⟩) hgl).trans c1⟩))
    (first | (go_at_call 38; refine (HEN.out _ ?_).mono ?_; exact HSD.out.drew; rintro e w2 ⟨rfl, hb2⟩))
  have HB2 : Hid (Below w.heap.size w w2) := Lib.hid ((Below.refl w.heap.size w).drew.trans hb2)
  have hsz : (encB (l.drop d)).size ≤ 900000 := by
    rw [encB_size]
    have h5 := encL_le (l.drop d) HZD.out
    have h6 : (l.drop d).length ≤ 200 := by simp; omega
    omega
  have HDZ : Hid (((encB (l.drop d)).extract 0 (keepK (encB (l.drop d)).size keep)).size ≤ 1000000) := Lib.hid (by rw [ByteArray.size_extract]; omega)
  have HDEC := Lib.hid (fun wq => rdecode_any ((encB (l.drop d)).extract 0 (keepK (encB (l.drop d)).size keep)) wq HDZ.out)
  have hkm := keep_max2 (encB (l.drop d)).size keep
  have hkl := keep_le (encB (l.drop d)).size keep
  have HXX : Hid ((encB (l.drop d)) = (encB (l.drop d))) := rfl
  obtain ⟨X, HX⟩ : ∃ X, Hid ((encB (l.drop d)) = X) := ⟨_, Lib.hid rfl⟩
  rw [HX.out] at hkm hkl hsz HDEC
  rw [HX.out]
  clear HXX hb2
  go_wp2_with fail
  refine (Calls.mono (HDEC.out _) ?_)
  rintro e w3 ⟨⟨v2, m, n, rfl, hown, hD, hnil⟩, hb3⟩
  have HB3 : Hid (Below w.heap.size w w3) := Lib.hid (bthen HB2.out hb3)
  have hk3 := (HB3.out.block g hgl).trans HBK.out
  have j0 : w3.cell? ⟨g, 1, none⟩ = some (.slice (some ⟨b, 0, none⟩) d d) := blk_cell hk3 1
  have j1 : w3.cell? ⟨g, 2, none⟩ = some (.int .i64 ((d : Nat) : Int)) := blk_cell hk3 2
  have f0 := blk_frozen hk3 1
  have f1 := blk_frozen hk3 2
  have hgl3 := blk_lt hk3
  have HD : Hid (Dec ((encB (l.drop d)).extract 0 (keepK (encB (l.drop d)).size keep)) m n) := Lib.hid (by rw [HX.out]; exact hD)
  have HK3 := Lib.hid hk3
  have HOW := Lib.hid hown
  have hml : m.length ≤ 100000 := by have := HD.out.len.1; have := HD.out.le; have := HDZ.out; omega
  have HS3 := Lib.hid (strs_take (HS.out.below HB3.out) d)
  clear hb3 hk3 hD c0 c1
  obtain rfl : m = [] := by
    have h1 := HD.out.len.1
    have h2 := HD.out.le
    have h3 : (encB (l.drop d)).size = 0 := by rw [encB_size, List.drop_eq_nil_of_le (by have := HLD.out; omega)]; rfl
    rw [ByteArray.size_extract, h3] at h2
    exact List.eq_nil_of_length_eq_zero (by omega)
  obtain rfl := hnil rfl
  have HTL : Hid ((l.take d).length = d) := Lib.hid (by rw [List.length_take]; have := HLD.out; omega)
  clear hnil hown
  have HOE := Lib.hid (own_empty w3 w.heap.size HB3.out.size)
  have HBA := Lib.hid ((HB3.out.alloc HB3.out.size (.cells #[] 9)).drew)
  go_wp2_with fail
  go_region_law (first
    | (refine step_append_lies _ (by rfl) _ _ _ (by rfl) w.heap.size 9 i0 _ 1 16 Tryd.underlying23 hi hz0 hz1 hz2 rfl (by omega) _ 0 [] (by rfl) ?_ ⟨b, 0, none⟩ d d (strVs (l.take d)) (by rfl) ?_ ?_ (strVs_one _) hd0 (by unfold maxLen; omega) (by omega) ?_ (w3.heap.size + 1) ?_ ?_; exact HOE.out.drew; (rw [strVs_len, HTL.out]; omega); exact strs_at (HS3.out.alloc _).drew; (have := HB3.out.size; simp; omega); simp; (intro gg cap4 w4 ho4 hg4 hat4 hlt4); (rw [Nat.zero_add, List.nil_append] at ho4); (have HB4 : Hid (Below w.heap.size w w4) := Lib.hid (HBA.out.grown hg4 HBA.out.size (fun q hq => (HOE.out.lt q hq).1))); (have hnc := own_room ho4); (have HO4 := Lib.hid ho4); (have hk4 := (HB4.out.block g hgl).trans HBK.out); (have r0 : w4.cell? ⟨g, 1, none⟩ = some _ := blk_cell hk4 1); (have r1 : w4.cell? ⟨g, 2, none⟩ = some (.int .i64 d) := blk_cell hk4 2); (have rf0 := blk_frozen hk4 1); (have rf1 := blk_frozen hk4 2); (have HK4 := Lib.hid hk4); clear ho4 hg4 hat4 hlt4 hk4)
    | fail)
  all_goals
    go_wp2_with fail
    go_end0
    refine ⟨rfl, ?_⟩
    have e : (l.take d ++ []).length = d := by rw [List.append_nil, HTL.out]
    have ho := HO4.out
    have := crashr_of (m := []) (v' := .slice (some ⟨gg, 0, none⟩) d cap4) hBg hgl hB HB4.out HK4.out ⟨n, HD.out⟩ (small_app (small_take d HZ.out) HD.out.small) (by rw [e, List.append_nil]; exact ho)
    rw [e] at this
    exact this
end Go.Proofs.YtkhdhelhkokdcaaDoor
