/- (*journal.Journal).Crash, one of three cases. -/
import Derived.Test.YtkhdhelhkokdcaaDoorJrnCrash0
namespace Go.Proofs.YtkhdhelhkokdcaaDoor
open Go.RowKit
set_option maxHeartbeats 4000000 in
set_option maxRecDepth 100000 in
theorem jcrash_n (keep : Int) (w : World) (hd : DigOk w) (hp : PowOk w) (hE : ErrsOk w) (B g : Nat) (hBg : B ≤ g) (hblk : w.heap[g]? = some (.cells #[(.slice none 0 0), .int .i64 ((0 : Nat) : Int), .bool true] 60 (0, 0))) (_hB : B ≤ w.heap.size) :
    Calls Tryd.prog 29 #[.pointer (some ⟨g, 0, none⟩), .int .i64 keep] w fun e w' => e = .returned (.tuple #[]) ∧ CrashJ w B g (.slice none 0 0) ([] : List ByteArray) 0 keep w' := by
  obtain ⟨i0, hi, hz0, hz1, hz2⟩ := info_parts Tryd.info_s
  have c0 : w.cell? ⟨g, 0, none⟩ = some (.slice none 0 0) := blk_cell hblk 0
  have c1 : w.cell? ⟨g, 1, none⟩ = some (.int .i64 ((0 : Nat) : Int)) := blk_cell hblk 1
  have c2 : w.cell? ⟨g, 2, none⟩ = some (.bool true) := blk_cell hblk 2
  have hgl := blk_lt hblk
  have HBK := Lib.hid hblk
  have HZD : Hid (∀ r ∈ ([] : List ByteArray), r.size ≤ 4096) := Lib.hid (fun r hr => by simp at hr)
  have HEN := Lib.hid (fun wq a b' c => encoded_any [] none 0 wq a b' c (by simp) HZD.out)
  have HSD : Hid (Strs w none []) := Lib.hid (Strs.nil_ _ _)
  clear hblk
  go_enter Tryd.func29, Tryd.ntmps29
  go_wp2_with fail
  go_region_held3 (fun w' => w'.cell? ⟨g, 0, none⟩ = some (.slice none 0 0) ∧ w'.cell? ⟨g, 1, none⟩ = some (.int .i64 0))
    (first | go_keep | (exact ⟨(hb2.cell (p := ⟨g, 0, none⟩) hgl).trans c0, (hb2.cell (p := ⟨g, 1, none⟩) hgl).trans c1⟩))
    (first | (go_at_call 37; refine (HEN.out _ ?_ ?_ ?_).mono ?_; exact hd.drew; exact hp.drew; exact HSD.out.drew; rintro e w2 ⟨rfl, hb2⟩))
  have HB2 : Hid (Below w.heap.size w w2) := Lib.hid ((Below.refl w.heap.size w).drew.trans hb2)
  have hsz : (encB ([] : List ByteArray)).size ≤ 900000 := by
    show (0 : Nat) ≤ _; omega
  have HDZ : Hid (((encB ([] : List ByteArray)).extract 0 (keepK (encB ([] : List ByteArray)).size keep)).size ≤ 1000000) := Lib.hid (by rw [ByteArray.size_extract]; omega)
  have HDEC := Lib.hid (fun wq a b' c => decode_any ((encB ([] : List ByteArray)).extract 0 (keepK (encB ([] : List ByteArray)).size keep)) wq a b' c HDZ.out)
  have hkm := keep_min (encB ([] : List ByteArray)).size keep
  have hkl := keep_le (encB ([] : List ByteArray)).size keep
  have HXX : Hid ((encB ([] : List ByteArray)) = (encB ([] : List ByteArray))) := rfl
  obtain ⟨X, HX⟩ : ∃ X, Hid ((encB ([] : List ByteArray)) = X) := ⟨_, Lib.hid rfl⟩
  rw [HX.out] at hkm hkl hsz HDEC
  rw [HX.out]
  clear HXX hb2
  go_wp2_with fail
  refine (Calls.mono (HDEC.out _ (hd.below HB2.out) (hp.below HB2.out) (hE.below HB2.out)) ?_)
  rintro e w3 ⟨⟨v2, m, n, rfl, hown, hD, hnil⟩, hb3⟩
  have HB3 : Hid (Below w.heap.size w w3) := Lib.hid (bthen HB2.out hb3)
  have hk3 := (HB3.out.block g hgl).trans HBK.out
  have j0 : w3.cell? ⟨g, 0, none⟩ = some (.slice none 0 0) := blk_cell hk3 0
  have j1 : w3.cell? ⟨g, 1, none⟩ = some (.int .i64 ((0 : Nat) : Int)) := blk_cell hk3 1
  have f0 := blk_frozen hk3 0
  have f1 := blk_frozen hk3 1
  have hgl3 := blk_lt hk3
  have HD : Hid (Dec ((encB ([] : List ByteArray)).extract 0 (keepK (encB ([] : List ByteArray)).size keep)) m n) := Lib.hid (by rw [HX.out]; exact hD)
  have HK3 := Lib.hid hk3
  have HOW := Lib.hid hown
  have hml : m.length ≤ 100000 := by have := HD.out.len.1; have := HD.out.le; have := HDZ.out; omega
  clear hb3 hk3 hD c0 c1 c2
  obtain rfl : m = [] := by
    have h2 := HD.out.len.1
    have h3 := HD.out.le
    have h4 : (encB ([] : List ByteArray)).size = 0 := rfl
    rw [ByteArray.size_extract, h4] at h3
    exact List.eq_nil_of_length_eq_zero (by omega)
  obtain rfl := hnil rfl
  have HFin : Hid (CrashJ w B g (.slice none 0 0) [] 0 keep ((w3.setCell ⟨g, 0, none⟩ (.slice none 0 0)).setCell ⟨g, 1, none⟩ (.int .i64 0))) := Lib.hid (by
    have := crash_of (l := []) (d := 0) (m := []) (v' := .slice none 0 0) hBg HB3.out HK3.out ⟨n, HD.out⟩ (fun x hx => by simp at hx) (.inl (World.ownsRow_nil _ _ _ _)) (by simp [Value.ownBlock]) (.inl rfl)
    exact this)
  clear hnil hown
  go_wp2_with fail
  go_region_law (fail)
  all_goals
    go_wp2_with fail
    go_end0
    refine ⟨rfl, CrashJ.drew ?_⟩
    exact HFin.out
end Go.Proofs.YtkhdhelhkokdcaaDoor
