/- Open, of the program and of the reference; the program's Records. -/
import Derived.Test.YtkhdhelhkokdcaaDoorJrnRecR
import Derived.Laws.CopyOwn
namespace Go.Proofs.YtkhdhelhkokdcaaDoor
open Go.RowKit

/-- What Open says. -/
def OpenJ (s : ByteArray) (w : World) (e : Ending) (w' : World) : Prop := ∃ l n, Dec s l n ∧ NewJ w l l.length e w'
def OpenR (s : ByteArray) (w : World) (e : Ending) (w' : World) : Prop := ∃ l n, Dec s l n ∧ NewR w l l.length e w'
set_option maxHeartbeats 2000000 in
set_option maxRecDepth 100000 in
theorem jopen_any (s : ByteArray) (w : World) (hd : DigOk w) (hp : PowOk w) (hE : ErrsOk w) (hs : s.size ≤ 70000) :
    Calls Tryd.prog 16 #[.string s] w fun e w' => OpenJ s w e w' ∧ Below w.heap.size w w' := by
  go_enter Tryd.func16, Tryd.ntmps16
  go_wp2_with fail
  refine (decode_any s w hd hp hE (by omega)).mono ?_
  rintro e w1 ⟨⟨v, l, n, rfl, hown, hD, _⟩, hb1⟩
  have hlen := hD.len.1
  have hle := hD.le
  have hll : l.length ≤ 4000 := by omega
  have HD := Lib.hid hD
  have HO := Lib.hid hown
  have HB := Lib.hid hb1
  obtain ⟨A, cap, hv, _, hcap, _⟩ := Rec.strs (.inl hown)
  have hnb : ∀ i, v.ownBlock = some i → i < w1.heap.size := fun i hi => (hown.lt i hi).2
  have HNB := Lib.hid hnb
  subst hv
  have hmin : min (l.length : Int) 4096 = (l.length : Int) := by omega
  clear hD hown hb1 hlen hle hnb
  go_wp2_with fail
  go_ret
  refine ⟨⟨l, n, HD.out, w1.heap.size, _, rfl, ⟨HB.out.size, heap_alloc_new w1 _, .inl (HO.out.alloc _), fun e => by have := HNB.out _ e; omega⟩, Nat.le_refl _, HD.out.small⟩, HB.out.alloc HB.out.size _⟩
set_option maxHeartbeats 2000000 in
set_option maxRecDepth 100000 in
theorem ropen_any (s : ByteArray) (w : World) (hs : s.size ≤ 70000) :
    Calls Tryd.prog 17 #[.string s] w fun e w' => OpenR s w e w' ∧ Below w.heap.size w w' := by
  go_enter Tryd.func17, Tryd.ntmps17
  go_wp2_with fail
  refine (rdecode_any s w (by omega)).mono ?_
  rintro e w1 ⟨⟨v, l, n, rfl, hown, hD, _⟩, hb1⟩
  have hlen := hD.len.1
  have hle := hD.le
  have hll : l.length ≤ 4000 := by omega
  have HD := Lib.hid hD
  have HO := Lib.hid hown
  have HB := Lib.hid hb1
  obtain ⟨A, cap, hv, _, hcap, _⟩ := Rec.strs (.inl hown)
  have hnb : ∀ i, v.ownBlock = some i → i < w1.heap.size := fun i hi => (hown.lt i hi).2
  have HNB := Lib.hid hnb
  subst hv
  have hmin : min (l.length : Int) 4096 = (l.length : Int) := by omega
  clear hD hown hb1 hlen hle hnb
  go_wp2_with fail
  go_ret
  refine ⟨⟨l, n, HD.out, w1.heap.size, _, rfl, ⟨HB.out.size, heap_alloc_new w1 _, .inl (HO.out.alloc _), fun e => by have := HNB.out _ e; omega⟩, Nat.le_refl _, HD.out.small⟩, HB.out.alloc HB.out.size _⟩
/-- The block of a row that the call has made. -/
theorem own_cells {w : World} {base : Nat} {e : TypeId} {g n cap : Nat} {xs : List Value} (h : w.ownsRow base e 1 (.slice (some ⟨g, 0, none⟩) n cap) n xs) : ∃ cur, w.heap[g]? = some (.cells cur e (0, 0)) ∧ cur.size = cap := by
  rcases h.2 with ⟨h0, _⟩ | ⟨g', cap', cur, hv, _, hh, _, _, hcs, _⟩
  · cases h0
  · injection hv with hv1 hv2 hv3
    injection hv1 with hv1; injection hv1 with hv1
    subst hv1; subst hv3
    exact ⟨cur, hh, by omega⟩
theorem setRow_strs {w : World} {g : Nat} {cur cs : Array Value} {t : TypeId} {l : List ByteArray} (h : w.heap[g]? = some (.cells cur t (0, 0))) (hc : cs.toList = strVs l) : Strs (w.setRow g cs) (some ⟨g, 0, none⟩) l := by
  intro i hi
  refine ⟨g, 0, rfl, ?_⟩
  rw [Nat.zero_add, cell_of_row _ g i cs t (0, 0) (setRow_heap w g cur cs t (0, 0) h), ← Array.getElem?_toList, hc, strVs_at l i hi]
set_option maxHeartbeats 2000000 in
set_option maxRecDepth 100000 in
theorem jrecords_any (w : World) (B g d : Nat) (v : Value) (l : List ByteArray) (h : JSt w B g v l d) (hl : l.length ≤ 4000) :
    Calls Tryd.prog 18 #[.pointer (some ⟨g, 0, none⟩)] w fun e w' => RetStrs w.heap.size w' e l ∧ Below w.heap.size w w' := by
  obtain ⟨i0, hi, hz0, hz1, hz2⟩ := info_parts Tryd.info_s
  obtain ⟨⟨hBg, hblk, hrec, hne⟩, hdl, hz⟩ := h
  obtain ⟨A, cap, hv, hs, hcap, hA, hA0⟩ := hrec.strs
  have c0 : w.cell? ⟨g, 0, none⟩ = some v := blk_cell hblk 0
  have hgl := blk_lt hblk
  have HBK := Lib.hid hblk
  have HS := Lib.hid hs
  subst hv
  clear hblk hrec hne hz hs
  rcases A with _ | p
  · obtain rfl := hA0 rfl
    clear hA hA0
    go_enter Tryd.func18, Tryd.ntmps18
    go_wp2_with (first | (at_make; refine wpList_make_full _ rfl _ _ 23 rfl w.heap.size 9 i0 (.string ByteArray.empty) 1 Tryd.underlying23 hi hz0 hz1 .i64 .i64 _ _ 0 rfl rfl rfl rfl (by omega) (by unfold maxLen; omega) (Nat.le_refl _) ?_; intro w1 hown1 hg1; have HB1 := Lib.hid ((Below.refl w.heap.size w).grown hg1 (Nat.le_refl _) (by intro k hk; cases hk)); have k0 : w1.cell? ⟨g, 0, none⟩ = some _ := blk_cell ((HB1.out.block g hgl).trans HBK.out) 0; clear hown1 hg1) | (with_reducible refine wpList_copy_nothing rfl (.tmp 12) (.tmp 16) 23 23 rfl 9 Tryd.underlying23 (by kernel_rfl) (some ⟨w.heap.size, 0, none⟩) none 0 0 0 cap rfl rfl rfl ?_))
    go_ret
    exact ⟨⟨_, _, rfl, Strs.nil_ _ _, fun p hp => by cases hp; exact Nat.le_refl _⟩, HB1.out⟩
  · obtain ⟨b, rfl, _⟩ := hA p rfl
    clear hA hA0
    go_enter Tryd.func18, Tryd.ntmps18
    go_wp2_with (first | (at_make; refine wpList_make_full _ rfl _ _ 23 rfl w.heap.size 9 i0 (.string ByteArray.empty) 1 Tryd.underlying23 hi hz0 hz1 .i64 .i64 _ _ l.length rfl rfl rfl rfl (by rw [hz2]; omega) (by unfold maxLen; omega) (Nat.le_refl _) ?_; intro w1 hown1 hg1; have HB1 := Lib.hid ((Below.refl w.heap.size w).grown hg1 (Nat.le_refl _) (by intro k hk; cases hk)); have k0 : w1.cell? ⟨g, 0, none⟩ = some _ := blk_cell ((HB1.out.block g hgl).trans HBK.out) 0; obtain ⟨cur, hcur, hcz⟩ := own_cells hown1; have HC := Lib.hid hcur; have HCZ := Lib.hid hcz; clear hown1 hg1 hcur hcz) | (with_reducible refine wpList_copy_own rfl (.tmp 12) (.tmp 16) 23 23 rfl 9 Tryd.underlying23 (by kernel_rfl) w.heap.size 0 l.length l.length ⟨b, 0, none⟩ l.length cap rfl rfl cur 9 HC.out (strVs l) (by rw [strVs_len]; simp) (strs_at (HS.out.below HB1.out)) (by rw [strVs_len, HCZ.out]; omega) (strVs_one l) ?_))
    go_ret
    refine ⟨⟨_, _, rfl, setRow_strs HC.out ?_, fun p hp => by cases hp; exact Nat.le_refl _⟩, below_setRow HB1.out (Nat.le_refl _) _⟩
    simp
    have h1 := HCZ.out
    have h2 := strVs_len l
    omega
end Go.Proofs.YtkhdhelhkokdcaaDoor
