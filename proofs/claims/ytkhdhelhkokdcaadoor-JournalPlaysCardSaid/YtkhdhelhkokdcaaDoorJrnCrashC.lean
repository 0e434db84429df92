/- (*journal.Journal).Crash, one of three cases. -/
import Derived.Test.YtkhdhelhkokdcaaDoorJrnCrash0
namespace Go.Proofs.YtkhdhelhkokdcaaDoor
open Go.RowKit
set_option maxHeartbeats 4000000 in
set_option maxRecDepth 100000 in
theorem jcrash_c (keep : Int) (w : World) (hd : DigOk w) (hp : PowOk w) (hE : ErrsOk w) (B g d b cap : Nat) (l : List ByteArray) (_hcap : l.length ≤ cap) (hdc : d < cap) (hBg : B ≤ g) (hblk : w.heap[g]? = some (.cells #[(.slice (some ⟨b, 0, none⟩) l.length cap), .int .i64 ((d : Nat) : Int), .bool true] 60 (0, 0))) (hB : B ≤ w.heap.size) (hrb : B ≤ b ∧ b < w.heap.size) (hbg : b ≠ g) (hs : Strs w (some ⟨b, 0, none⟩) l) (hdl : d ≤ l.length) (hl : l.length ≤ 200) (hz : ∀ r ∈ l, r.size ≤ 4096) :
    Calls Tryd.prog 29 #[.pointer (some ⟨g, 0, none⟩), .int .i64 keep] w fun e w' => e = .returned (.tuple #[]) ∧ CrashJ w B g (.slice (some ⟨b, 0, none⟩) l.length cap) l d keep w' := by
  obtain ⟨i0, hi, hz0, hz1, hz2⟩ := info_parts Tryd.info_s
  have c0 : w.cell? ⟨g, 0, none⟩ = some (.slice (some ⟨b, 0, none⟩) l.length cap) := blk_cell hblk 0
  have c1 : w.cell? ⟨g, 1, none⟩ = some (.int .i64 ((d : Nat) : Int)) := blk_cell hblk 1
  have c2 : w.cell? ⟨g, 2, none⟩ = some (.bool true) := blk_cell hblk 2
  have hgl := blk_lt hblk
  have HBK := Lib.hid hblk
  have HZ := Lib.hid hz
  have HS := Lib.hid hs
  have HNE : Hid (some b ≠ some g) := Lib.hid (fun e => hbg (by injection e))
  have HRB := Lib.hid hrb
  have HZD : Hid (∀ r ∈ l.drop d, r.size ≤ 4096) := Lib.hid (fun r hr => hz r (List.mem_of_mem_drop hr))
  have hlen : (l.drop d).length = l.length - d := by simp
  have hen := fun wq a b' c => encoded_any (l.drop d) (some ⟨b, d, none⟩) (cap - d) wq a b' c (by rw [hlen]; omega) HZD.out
  rw [hlen] at hen
  have HSD := Lib.hid (strs_drop HS.out d)
  have HEN := Lib.hid hen
  have i1 : (0 : Int) ≤ (d : Int) := by omega
  have i2 : (d : Int) ≤ (l.length : Int) := by omega
  have hdd : d ≤ cap := by omega
  have hcd : ¬ cap = d := by omega
  clear hblk hz hs hbg hrb hlen hen
  go_enter Tryd.func29, Tryd.ntmps29
  go_wp2_with fail
  go_region_held3 (fun w' => w'.cell? ⟨g, 0, none⟩ = some (.slice (some ⟨b, 0, none⟩) l.length cap) ∧ w'.cell? ⟨g, 1, none⟩ = some (.int .i64 (d : Int)))
    (first | go_keep | (exact ⟨(hb2.cell (p := ⟨g, 0, none⟩) hgl).trans c0, (hb2.cell (p := ⟨g, 1, none⟩) hgl).trans c1⟩))
    (first | (go_at_call 37; refine (HEN.out _ ?_ ?_ ?_).mono ?_; exact hd.drew; exact hp.drew; exact HSD.out.drew; rintro e w2 ⟨rfl, hb2⟩))
  have HB2 : Hid (Below w.heap.size w w2) := Lib.hid ((Below.refl w.heap.size w).drew.trans hb2)
  have hsz : (encB (l.drop d)).size ≤ 900000 := by
    rw [encB_size]
    have h5 := encL_le (l.drop d) HZD.out
    have h6 : (l.drop d).length ≤ 200 := by simp; omega
    omega
  have HDZ : Hid (((encB (l.drop d)).extract 0 (keepK (encB (l.drop d)).size keep)).size ≤ 1000000) := Lib.hid (by rw [ByteArray.size_extract]; omega)
  have HDEC := Lib.hid (fun wq a b' c => decode_any ((encB (l.drop d)).extract 0 (keepK (encB (l.drop d)).size keep)) wq a b' c HDZ.out)
  have hkm := keep_min (encB (l.drop d)).size keep
  have hkl := keep_le (encB (l.drop d)).size keep
  have HXX : Hid ((encB (l.drop d)) = (encB (l.drop d))) := rfl
  obtain ⟨X, HX⟩ : ∃ X, Hid ((encB (l.drop d)) = X) := ⟨_, Lib.hid rfl⟩
  rw [HX.out] at hkm hkl hsz HDEC
  rw [HX.out]
  clear HXX hb2
  go_wp2_with fail
  refine (Calls.mono (HDEC.out _ (hd.below HB2.out) (hp.below HB2.out) (hE.below HB2.out)) ?_)
  rintro e w3 ⟨⟨v2, m, n, rfl, hown, hD, hnil⟩, hb3⟩
  have HB3 : Hid (Below w.heap.size w w3) := Lib.hid (bthen HB2.out hb3)
  have hk3 := (HB3.out.block g hgl).trans HBK.out
  have j0 : w3.cell? ⟨g, 0, none⟩ = some (.slice (some ⟨b, 0, none⟩) l.length cap) := blk_cell hk3 0
  have j1 : w3.cell? ⟨g, 1, none⟩ = some (.int .i64 ((d : Nat) : Int)) := blk_cell hk3 1
  have f0 := blk_frozen hk3 0
  have f1 := blk_frozen hk3 1
  have hgl3 := blk_lt hk3
  have HD : Hid (Dec ((encB (l.drop d)).extract 0 (keepK (encB (l.drop d)).size keep)) m n) := Lib.hid (by rw [HX.out]; exact hD)
  have HK3 := Lib.hid hk3
  have HOW := Lib.hid hown
  have hml : m.length ≤ 100000 := by have := HD.out.len.1; have := HD.out.le; have := HDZ.out; omega
  have HS3 := Lib.hid (strs_take (HS.out.below HB3.out) d)
  clear hb3 hk3 hD c0 c1 c2
  by_cases hm : m = []
  · obtain rfl := hnil hm
    subst hm
    have hrb := HRB.out
    have HFin : Hid (CrashJ w B g (.slice (some ⟨b, 0, none⟩) l.length cap) l d keep ((w3.setCell ⟨g, 0, none⟩ (.slice (some ⟨b, 0, none⟩) d d)).setCell ⟨g, 1, none⟩ (.int .i64 d))) := Lib.hid (by
      have e : (l.take d ++ []).length = d := by simp; omega
      have := crash_of (v := (.slice (some ⟨b, 0, none⟩) l.length cap)) (v' := .slice (some ⟨b, 0, none⟩) d d) hBg HB3.out HK3.out ⟨n, HD.out⟩ (small_app (small_take d HZ.out) (fun x hx => by cases hx)) (.inr ⟨b, hrb.1, Nat.lt_of_lt_of_le hrb.2 HB3.out.size, by rw [e], by rw [List.append_nil]; exact HS3.out⟩) HNE.out (.inl rfl)
      rwa [e] at this)
    clear hnil hown hrb
    go_wp2_with fail
    go_region_law (fail)
    all_goals
      go_wp2_with fail
      go_end0
      refine ⟨rfl, CrashJ.drew ?_⟩
      exact HFin.out
  · obtain ⟨q, cq, hvq, _, _⟩ := hown.form (by have := List.length_pos_iff.2 hm; omega)
    subst hvq
    have HSM := Lib.hid (Strs.own HOW.out rfl (strVs_at m))
    have hmp := List.length_pos_iff.2 hm
    have HTL : Hid ((l.take d).length = d) := Lib.hid (by rw [List.length_take]; omega)
    clear hnil hown hm
    go_wp2_with fail
    go_region_law (refine step_append_grows (by rfl) _ _ _ (by rfl) 9 i0 _ 1 16 Tryd.underlying23 hi hz0 hz1 hz2 rfl (by omega) (some ⟨b, 0, none⟩) d d (strVs (l.take d)) (by rfl) (by intro h; cases h) ?_ ?_ ⟨q, 0, none⟩ m.length cq (strVs m) (by rfl) ?_ ?_ (strVs_one m) ?_ (by unfold maxLen; omega) (by omega) ?_; (rw [strVs_len, HTL.out]; omega); (intro b' hb'; cases hb'; exact strs_at HS3.out.drew); (rw [strVs_len]; omega); exact strs_at HSM.out.drew; omega; (intro v' w4 ho4 hg4); (have hk4 := (hg4.block g hgl3 (fun e => by cases e)).trans HK3.out); (have r0 : w4.cell? ⟨g, 0, none⟩ = some _ := blk_cell hk4 0); (have r1 : w4.cell? ⟨g, 1, none⟩ = some (.int .i64 d) := blk_cell hk4 1); (have rf0 := blk_frozen hk4 0); (have rf1 := blk_frozen hk4 1); (obtain ⟨qb, qc, hqv, _⟩ := ho4.form (by omega)); subst hqv; (have HK4 := Lib.hid hk4); (have HO4 := Lib.hid ho4); (have HG4 := Lib.hid hg4); clear hk4 ho4 hg4)
    all_goals
      go_wp2_with fail
      go_end0
      refine ⟨rfl, ?_⟩
      have HB4 : Below w.heap.size w w4 := (HB3.out.drew).grown HG4.out (Nat.le_trans HB3.out.size (Nat.le_refl _)) (fun q h => by cases h)
      have e : (l.take d ++ m).length = d + m.length := by rw [List.length_append, HTL.out]
      have ho := HO4.out
      rw [strVs_app] at ho
      have := crash_of (v := (.slice (some ⟨b, 0, none⟩) l.length cap)) (v' := .slice (some ⟨qb, 0, none⟩) (d + m.length) qc) hBg HB4 HK4.out ⟨n, HD.out⟩ (small_app (small_take d HZ.out) HD.out.small) (.inl (by rw [e]; exact ho.mono (Nat.le_trans hB HB3.out.size))) (fun e1 => by have h5 := (ho.lt g e1).1; exact absurd h5 (Nat.not_le_of_lt hgl3)) (.inr (fun i hi => Nat.le_trans HB3.out.size (ho.lt i hi).1))
      rw [e] at this
      first | exact this | (have h9 : ((d : Int) + (m.length : Int)) = ((d + m.length : Nat) : Int) := by omega
                            rw [h9]; exact this)
end Go.Proofs.YtkhdhelhkokdcaaDoor
