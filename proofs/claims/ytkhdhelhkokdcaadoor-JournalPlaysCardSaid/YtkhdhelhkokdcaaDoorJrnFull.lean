/- The program's Records: the list that it hands back is full. -/
import Derived.Test.YtkhdhelhkokdcaaDoorJrnAJ
namespace Go.Proofs.YtkhdhelhkokdcaaDoor
open Go.RowKit

/-- A list of strings that is full. -/
def RetFull (B : Nat) (w' : World) (e : Ending) (l : List ByteArray) : Prop := ∃ A, e = .returned (.slice A l.length l.length) ∧ Strs w' A l ∧ ∀ p, A = some p → B ≤ p.block
set_option maxHeartbeats 2000000 in
set_option maxRecDepth 100000 in
theorem jrecords_full (w : World) (B g d : Nat) (v : Value) (l : List ByteArray) (h : JSt w B g v l d) (hl : l.length ≤ 4000) :
    Calls Tryd.prog 18 #[.pointer (some ⟨g, 0, none⟩)] w fun e w' => RetFull w.heap.size w' e l ∧ Below w.heap.size w w' := by
  obtain ⟨i0, hi, hz0, hz1, hz2⟩ := info_parts Tryd.info_s
  obtain ⟨⟨hBg, hblk, hrec, hne⟩, hdl, hz⟩ := h
  obtain ⟨A, cap, hv, hs, hcap, hA, hA0⟩ := hrec.strs
  have c0 : w.cell? ⟨g, 0, none⟩ = some v := blk_cell hblk 0
  have hgl := blk_lt hblk
  have HBK := Lib.hid hblk
  have HS := Lib.hid hs
  subst hv
  clear hblk hrec hne hz hs
  rcases A with _ | p
  · obtain rfl := hA0 rfl
    clear hA hA0
    go_enter Tryd.func18, Tryd.ntmps18
    go_wp2_with (first | (at_make; refine wpList_make_full _ rfl _ _ 23 rfl w.heap.size 9 i0 (.string ByteArray.empty) 1 Tryd.underlying23 hi hz0 hz1 .i64 .i64 _ _ 0 rfl rfl rfl rfl (by omega) (by unfold maxLen; omega) (Nat.le_refl _) ?_; intro w1 hown1 hg1; have HB1 := Lib.hid ((Below.refl w.heap.size w).grown hg1 (Nat.le_refl _) (by intro k hk; cases hk)); have k0 : w1.cell? ⟨g, 0, none⟩ = some _ := blk_cell ((HB1.out.block g hgl).trans HBK.out) 0; clear hown1 hg1) | (with_reducible refine wpList_copy_nothing rfl (.tmp 12) (.tmp 16) 23 23 rfl 9 Tryd.underlying23 (by kernel_rfl) (some ⟨w.heap.size, 0, none⟩) none 0 0 0 cap rfl rfl rfl ?_))
    go_ret
    exact ⟨⟨_, rfl, Strs.nil_ _ _, fun p hp => by cases hp; exact Nat.le_refl _⟩, HB1.out⟩
  · obtain ⟨b, rfl, _⟩ := hA p rfl
    clear hA hA0
    go_enter Tryd.func18, Tryd.ntmps18
    go_wp2_with (first | (at_make; refine wpList_make_full _ rfl _ _ 23 rfl w.heap.size 9 i0 (.string ByteArray.empty) 1 Tryd.underlying23 hi hz0 hz1 .i64 .i64 _ _ l.length rfl rfl rfl rfl (by rw [hz2]; omega) (by unfold maxLen; omega) (Nat.le_refl _) ?_; intro w1 hown1 hg1; have HB1 := Lib.hid ((Below.refl w.heap.size w).grown hg1 (Nat.le_refl _) (by intro k hk; cases hk)); have k0 : w1.cell? ⟨g, 0, none⟩ = some _ := blk_cell ((HB1.out.block g hgl).trans HBK.out) 0; obtain ⟨cur, hcur, hcz⟩ := own_cells hown1; have HC := Lib.hid hcur; have HCZ := Lib.hid hcz; clear hown1 hg1 hcur hcz) | (with_reducible refine wpList_copy_own rfl (.tmp 12) (.tmp 16) 23 23 rfl 9 Tryd.underlying23 (by kernel_rfl) w.heap.size 0 l.length l.length ⟨b, 0, none⟩ l.length cap rfl rfl cur 9 HC.out (strVs l) (by rw [strVs_len]; simp) (strs_at (HS.out.below HB1.out)) (by rw [strVs_len, HCZ.out]; omega) (strVs_one l) ?_))
    go_ret
    refine ⟨⟨_, rfl, setRow_strs HC.out ?_, fun p hp => by cases hp; exact Nat.le_refl _⟩, below_setRow HB1.out (Nat.le_refl _) _⟩
    simp
    have h1 := HCZ.out
    have h2 := strVs_len l
    omega
theorem aj_full (w0 w : World) (g d : Nat) (v : Value) (l : List ByteArray) (h : AJ w0 w g v l d) (hl : l.length ≤ 4000) :
    Calls Tryd.prog 18 #[.pointer (some ⟨g, 0, none⟩)] w fun e w' => RetFull w.heap.size w' e l ∧ Below w.heap.size w w' := jrecords_full w _ g d v l h.1 hl
/-- A list made beside a journal is empty or lies elsewhere. -/
theorem apart_or {A : Option Addr} {w w0 w' : World} {g d : Nat} {v : Value} {l q : List ByteArray} (h : AJ w0 w g v l d) (hs : Strs w' A q) (hA : ∀ p, A = some p → w.heap.size ≤ p.block) : q = [] ∨ Apart A w' g v := by
  cases q with
  | nil => exact .inl rfl
  | cons x q =>
    refine .inr (Apart.new h hA (fun p hp => ?_))
    obtain ⟨b', o', e', hc'⟩ := hs 0 (by simp)
    rw [e'] at hp; cases hp
    exact World.block_lt_of_cell? _ _ hc'
theorem Strs.step {w w' : World} {A : Option Addr} {l : List ByteArray} {g : Nat} {v : Value} (h : Strs w A l) (ha : l = [] ∨ Apart A w g v) (ho : Only w w' g v.ownBlock) : Strs w' A l := by
  rcases ha with rfl | ha
  · exact Strs.nil_ _ _
  · exact h.apart ha ho
theorem apart_below {A : Option Addr} {w w' : World} {g : Nat} {v : Value} {q : List ByteArray} (h : q = [] ∨ Apart A w g v) (hs : w.heap.size ≤ w'.heap.size) : q = [] ∨ Apart A w' g v := h.imp id (fun h => h.below hs)
end Go.Proofs.YtkhdhelhkokdcaaDoor
