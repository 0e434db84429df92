/- The other calls of journal.Journal, but Crash and Records. -/
import Derived.Test.YtkhdhelhkokdcaaDoorJrnAppend
import Derived.Deep.RegionHeld3
namespace Go.Proofs.YtkhdhelhkokdcaaDoor
open Go.RowKit

theorem PowOk.drew {w : World} (h : PowOk w) : PowOk w.drew := h
theorem ErrsOk.drew {w : World} (h : ErrsOk w) : ErrsOk w.drew := h
theorem Rec.mono {w : World} {B B' : Nat} {v : Value} {l : List ByteArray} (h : Rec w B v l) (hb : B' ≤ B) : Rec w B' v l := by
  rcases h with h | ⟨b, h1, h2⟩
  · exact .inl (h.mono hb)
  · exact .inr ⟨b, by omega, h2⟩
theorem JSt.mono {w : World} {B B' g d : Nat} {v : Value} {l : List ByteArray} (h : JSt w B g v l d) (hb : B' ≤ B) : JSt w B' g v l d := ⟨⟨by have := h.1.1; omega, h.1.2.1, h.1.2.2.1.mono hb, h.1.2.2.2⟩, h.2⟩
theorem RSt.mono {w : World} {B B' g d : Nat} {v : Value} {l : List ByteArray} (h : RSt w B g v l d) (hb : B' ≤ B) : RSt w B' g v l d := ⟨⟨by have := h.1.1; omega, h.1.2.1, h.1.2.2.1.mono hb, h.1.2.2.2⟩, h.2⟩
set_option maxHeartbeats 2000000 in
set_option maxRecDepth 100000 in
theorem jappend_big (r : ByteArray) (w : World) (B g d : Nat) (v : Value) (l : List ByteArray) (h : JSt w B g v l d) (hr : 4096 < r.size) :
    Calls Tryd.prog 27 #[.pointer (some ⟨g, 0, none⟩), .string r] w fun e w' => e = .returned (.int .i64 3) ∧ w = w' := by
  obtain ⟨⟨hBg, hblk, hrec, hne⟩, hd, hz⟩ := h
  have c2 : w.cell? ⟨g, 2, none⟩ = some (.bool true) := blk_cell hblk 2
  have t1 : decide ((4096 : Int) < (r.size : Int)) = true := decide_eq_true (by omega)
  clear hblk hrec hne hz
  go_enter Tryd.func27, Tryd.ntmps27
  go_wp2_with fail
  go_ret
  exact ⟨rfl, rfl⟩
theorem jappend_nil (r : ByteArray) (w : World) :
    Calls Tryd.prog 27 #[.pointer none, .string r] w fun e w' => e = .returned (.int .i64 1) ∧ w = w' := by
  go_enter Tryd.func27, Tryd.ntmps27
  go_wp2_with fail
  go_ret
  exact ⟨rfl, rfl⟩
/-- What makes a journal. -/
def NewJ (w : World) (l : List ByteArray) (d : Nat) (e : Ending) (w' : World) : Prop := ∃ g v, e = .returned (.pointer (some ⟨g, 0, none⟩)) ∧ JSt w' w.heap.size g v l d
def NewR (w : World) (l : List ByteArray) (d : Nat) (e : Ending) (w' : World) : Prop := ∃ g v, e = .returned (.pointer (some ⟨g, 0, none⟩)) ∧ RSt w' w.heap.size g v l d
theorem jnew_any (w : World) : Calls Tryd.prog 26 #[] w fun e w' => NewJ w [] 0 e w' ∧ Below w.heap.size w w' := by
  go_enter Tryd.func26, Tryd.ntmps26
  go_wp2_with fail
  go_ret
  exact ⟨⟨w.heap.size, .slice none 0 0, rfl, ⟨Nat.le_refl _, heap_alloc_new w _, .inl (World.ownsRow_nil _ _ _ _), by simp [Value.ownBlock]⟩, Nat.le_refl _, fun r hr => by simp at hr⟩, (Below.refl _ _).alloc (Nat.le_refl _) _⟩
set_option maxHeartbeats 2000000 in
set_option maxRecDepth 100000 in
theorem jsync_any (w : World) (B g d : Nat) (v : Value) (l : List ByteArray) (h : JSt w B g v l d) :
    Calls Tryd.prog 28 #[.pointer (some ⟨g, 0, none⟩)] w fun e w' => e = .returned (.int .i64 l.length) ∧ JSt w' B g v l l.length ∧ Only w w' g none := by
  obtain ⟨⟨hBg, hblk, hrec, hne⟩, hd, hz⟩ := h
  obtain ⟨A, cap, hv, _⟩ := hrec.strs
  have c0 : w.cell? ⟨g, 0, none⟩ = some v := blk_cell hblk 0
  have c1 : w.cell? ⟨g, 1, none⟩ = some (.int .i64 d) := blk_cell hblk 1
  have f1 := blk_frozen hblk 1
  have HF : Hid (JSt (w.setCell ⟨g, 1, none⟩ (.int .i64 l.length)) B g v l l.length ∧ Only w (w.setCell ⟨g, 1, none⟩ (.int .i64 l.length)) g none) := Lib.hid ⟨⟨⟨hBg, by rw [blk_set hblk]; rfl, hrec.keep (by simp [World.setCell]) (fun i hi => Below.heap_setCell w ⟨g, 1, none⟩ _ i (fun e => hne (by rw [hi]; exact congrArg some e))), hne⟩, Nat.le_refl _, hz⟩, (Only.refl w g none).setCell 1 _⟩
  subst hv
  clear hblk hrec hne hz
  go_enter Tryd.func28, Tryd.ntmps28
  go_wp2_with fail
  go_ret
  exact ⟨rfl, HF.out⟩
theorem jdurable_any (w : World) (B g d : Nat) (v : Value) (l : List ByteArray) (h : JSt w B g v l d) :
    Calls Tryd.prog 20 #[.pointer (some ⟨g, 0, none⟩)] w fun e w' => e = .returned (.int .i64 d) ∧ w = w' := by
  have c1 : w.cell? ⟨g, 1, none⟩ = some (.int .i64 d) := blk_cell h.1.2.1 1
  clear h
  go_enter Tryd.func20, Tryd.ntmps20
  go_wp2_with fail
  go_ret
  exact ⟨rfl, rfl⟩
set_option maxHeartbeats 2000000 in
set_option maxRecDepth 100000 in
theorem jbytes_any (w : World) (hd : DigOk w) (hp : PowOk w) (B g d : Nat) (v : Value) (l : List ByteArray) (h : JSt w B g v l d) (hl : l.length ≤ 4000) :
    Calls Tryd.prog 22 #[.pointer (some ⟨g, 0, none⟩)] w fun e w' => e = .returned (.string (encB (l.take d))) ∧ Below w.heap.size w w' := by
  obtain ⟨⟨hBg, hblk, hrec, hne⟩, hdl, hz⟩ := h
  obtain ⟨A, cap, hv, hs, hcap, _⟩ := hrec.strs
  have c0 : w.cell? ⟨g, 0, none⟩ = some v := blk_cell hblk 0
  have c1 : w.cell? ⟨g, 1, none⟩ = some (.int .i64 d) := blk_cell hblk 1
  have HS := Lib.hid (strs_take hs d)
  have HZ : Hid (∀ r ∈ l.take d, r.size ≤ 4096) := Lib.hid (fun r hr => hz r (List.mem_of_mem_take hr))
  have hlen : (l.take d).length = d := by rw [List.length_take]; omega
  have hen := fun wq a b c => encoded_any (l.take d) A cap wq a b c (by omega) HZ.out
  rw [hlen] at hen
  have HEN := Lib.hid hen
  subst hv
  have hgl := blk_lt hblk
  have i1 : (0 : Int) ≤ (d : Int) := by omega
  have i2 : (d : Int) ≤ (cap : Int) := by omega
  have hdc : d ≤ cap := by omega
  clear hblk hrec hne hz hs hlen hen
  go_enter Tryd.func22, Tryd.ntmps22
  go_wp2_with fail
  go_region_held3 (fun w' => w'.cell? ⟨g, 0, none⟩ = some (.slice A l.length cap) ∧ w'.cell? ⟨g, 1, none⟩ = some (.int .i64 d))
    (first | go_keep | (exact ⟨(hb2.cell (p := ⟨g, 0, none⟩) hgl).trans c0, (hb2.cell (p := ⟨g, 1, none⟩) hgl).trans c1⟩))
    (first | (go_at_call 37; refine (HEN.out _ ?_ ?_ ?_).mono ?_; exact hd.drew; exact hp.drew; exact HS.out.drew; rintro e w2 ⟨rfl, hb2⟩))
  go_wp2_with fail
  go_ret
  exact ⟨rfl, (Below.refl w.heap.size w).drew.trans hb2⟩
end Go.Proofs.YtkhdhelhkokdcaaDoor
