/- (*journal.Journal).Append. -/
import Derived.Test.YtkhdhelhkokdcaaDoorJrnSt
import Derived.Deep.AppendLies
namespace Go.Proofs.YtkhdhelhkokdcaaDoor
open Go.RowKit

theorem strVs_len (l : List ByteArray) : (strVs l).length = l.length := by simp [strVs]
theorem small_snoc {l : List ByteArray} {r : ByteArray} (h : ∀ x ∈ l, x.size ≤ 4096) (hr : r.size ≤ 4096) : ∀ x ∈ l ++ [r], x.size ≤ 4096 := by
  intro x hx
  rw [List.mem_append, List.mem_singleton] at hx
  rcases hx with hx | rfl
  · exact h x hx
  · exact hr
theorem strs_row {w : World} {b : Nat} {l : List ByteArray} (h : Strs w (some ⟨b, 0, none⟩) l) : ∀ j u, (strVs l)[j]? = some u → w.cell? ⟨b, 0 + j, none⟩ = some u := by
  intro j u hu
  have hj : j < l.length := by
    have := (List.getElem?_eq_some_iff.1 hu).1
    rwa [strVs_len] at this
  obtain ⟨b', o', e, hc⟩ := h j hj
  injection e with e; injection e with e1 e2
  subst e1; subst e2
  rw [hc, ← strVs_at l j hj, hu]
/-- How the journal stands when its block's cell 0 has been stored. -/
theorem appj_of {w wa w2 : World} {B g d : Nat} {v v' : Value} {l : List ByteArray} {r : ByteArray} (hBg : B ≤ g) (hblk : w.heap[g]? = some (.cells #[v, .int .i64 d, .bool true] 60 (0, 0))) (hd : d ≤ l.length) (hz : ∀ x ∈ l, x.size ≤ 4096) (hr : r.size ≤ 4096)
    (ha : Below w.heap.size w wa) (hown : w2.ownsRow B 9 1 v' (l.length + 1) (strVs l ++ [strV r])) (ho : Only wa w2 g v.ownBlock) (hne : v.ownBlock ≠ some g) (hb : v'.ownBlock = v.ownBlock ∨ ∀ i, v'.ownBlock = some i → wa.heap.size ≤ i) :
    w2.heap[g]? = some (.cells #[v, .int .i64 d, .bool true] 60 (0, 0)) → AppJ w B g v (l ++ [r]) d (w2.setCell ⟨g, 0, none⟩ v') := by
  intro hblk2
  have hg := blk_lt hblk
  have hne' : v'.ownBlock ≠ some g := by
    rcases hb with h | h
    · rw [h]; exact hne
    · intro e; have := h g e; have := ha.size; omega
  refine ⟨v', ⟨⟨hBg, ?_, .inl ?_, hne'⟩, by simp; omega, small_snoc hz hr⟩, ((Only.of_below ha g v.ownBlock).trans ho (.inl rfl)).setCell 0 v', ?_⟩
  · rw [blk_set hblk2]; rfl
  · rw [List.length_append, List.length_singleton, ← strVs_snoc]
    exact own_keep hown (fun i hi => Below.heap_setCell w2 ⟨g, 0, none⟩ v' i (fun e => hne' (by rw [hi]; exact congrArg some e)))
  · rcases hb with h | h
    · exact .inl h
    · exact .inr (fun i hi => by have := h i hi; have := ha.size; omega)
set_option maxHeartbeats 2000000 in
set_option maxRecDepth 100000 in
theorem jappend_ok (r : ByteArray) (w : World) (B g d : Nat) (v : Value) (l : List ByteArray) (h : JSt w B g v l d) (hB : B ≤ w.heap.size) (hl : l.length ≤ 4000) (hr : r.size ≤ 4096) :
    Calls Tryd.prog 27 #[.pointer (some ⟨g, 0, none⟩), .string r] w fun e w' => e = .returned (.int .i64 0) ∧ AppJ w B g v (l ++ [r]) d w' := by
  obtain ⟨i0, hi, hz0, hz1, hz2⟩ := info_parts Tryd.info_s
  obtain ⟨⟨hBg, hblk, hrec, hne⟩, hd, hz⟩ := h
  have HZ := Lib.hid hz
  have HNE := Lib.hid hne
  have HBK := Lib.hid hblk
  have hgl := blk_lt hblk
  have c0 : w.cell? ⟨g, 0, none⟩ = some v := blk_cell hblk 0
  have c2 : w.cell? ⟨g, 2, none⟩ = some (.bool true) := blk_cell hblk 2
  have wa := (Below.refl w.heap.size w).alloc (Nat.le_refl _) (.cells #[.string r] 9)
  have HWA := Lib.hid wa
  have HBA := Lib.hid ((wa.block g hgl).trans hblk)
  clear hz hne hblk wa
  have t1 : decide ((4096 : Int) < (r.size : Int)) = false := decide_eq_false (by omega)
  have t2 : decide ((4096 : Int) ≤ (l.length : Int)) = false := decide_eq_false (by omega)
  rcases hrec with hown | ⟨b, hb1, hb2, rfl, hs⟩
  · obtain ⟨A, cap, hv, _⟩ := Rec.strs (.inl hown)
    have HV := Lib.hid hv
    have hown' := Lib.hid (hown.alloc (.cells #[.string r] 9))
    clear hown
    subst hv
    go_enter Tryd.func27, Tryd.ntmps27
    go_wp2_with (at_builtin; refine wpList_append_own_at _ rfl _ _ 23 rfl B 9 i0 (.string ByteArray.empty) 1 16 Tryd.underlying23 hi hz0 hz1 hz2 rfl (by decide) _ _ _ rfl hown'.out ⟨w.heap.size, 0, none⟩ 1 1 [strV r] rfl rfl (cell_one_new _ _ _) (by intro u hu; simp at hu; subst hu; rfl) (by unfold maxLen; omega) (by omega) (by simp; omega) ?_; intro v' w2 ho2 hg2 _ hob2; have hk2 := (hg2.block g (Nat.lt_of_lt_of_le hgl HWA.out.size) (fun e => HNE.out e.symm)).trans HBA.out; have k0 : w2.cell? ⟨g, 0, none⟩ = some _ := blk_cell hk2 0; have f0 := blk_frozen hk2 0; obtain ⟨qb, qc, hqv, _⟩ := ho2.form (by omega); subst hqv; have HK2 := Lib.hid hk2; have HO2 := Lib.hid ho2; have HG2 := Lib.hid hg2; have HOB := Lib.hid hob2; clear hk2 ho2 hg2 hob2)
    go_ret
    exact ⟨rfl, appj_of hBg HBK.out hd HZ.out hr HWA.out HO2.out (Only.of_grown HG2.out g) HNE.out (HOB.out.imp_right (fun e i hi => by rw [e] at hi; injection hi with hi; omega)) HK2.out⟩
  · have HS := Lib.hid (hs.alloc (.cells #[.string r] 9))
    clear hs
    go_enter Tryd.func27, Tryd.ntmps27
    go_wp2_with (at_builtin; refine wpList_append_arg _ rfl _ _ 23 rfl 9 i0 (.string ByteArray.empty) 1 16 Tryd.underlying23 hi hz0 hz1 hz2 rfl (by decide) b 0 l.length l.length (strVs l) rfl (by simp [strVs_len]) (strs_row HS.out) ⟨w.heap.size, 0, none⟩ 1 1 [strV r] rfl rfl (cell_one_new _ _ _) (by intro u hu; simp at hu; subst hu; rfl) (fun hx => absurd hx (by omega)) (by unfold maxLen; omega) (by omega) (fun hx => absurd hx (by omega)) (fun _ v' w2 ho2 hg2 => ?_); have hk2 := (hg2.block g (Nat.lt_of_lt_of_le hgl HWA.out.size) (fun e => by cases e)).trans HBA.out; have k0 : w2.cell? ⟨g, 0, none⟩ = some _ := blk_cell hk2 0; have f0 := blk_frozen hk2 0; obtain ⟨qb, qc, hqv, _⟩ := ho2.form (by omega); subst hqv; have HK2 := Lib.hid hk2; have HO2 := Lib.hid ho2; have HG2 := Lib.hid hg2; clear hk2 ho2 hg2)
    go_ret
    refine ⟨rfl, appj_of hBg HBK.out hd HZ.out hr HWA.out (HO2.out.mono (by have := HWA.out.size; omega)) ⟨HG2.out.os, HG2.out.tape, HG2.out.output, HG2.out.size, fun i hi _ _ => HG2.out.block i hi (fun e => by cases e)⟩ HNE.out (.inr (fun i hi => (HO2.out.lt i hi).1)) HK2.out⟩
end Go.Proofs.YtkhdhelhkokdcaaDoor
