/- journal.encoded and the reference's bytes: the bytes of records. -/
import Derived.Test.YtkhdhelhkokdcaaDoorJrnDecW
namespace Go.Proofs.YtkhdhelhkokdcaaDoor
open Go.RowKit

/-- The bytes of records, as a string. -/
def encB (l : List ByteArray) : ByteArray := ⟨(encL l).toArray⟩
theorem encB_list (l : List ByteArray) : (encB l).data.toList = encL l := by simp [encB]
theorem encS_le (r : ByteArray) (h : r.size ≤ 4096) : (encS r).size ≤ 4200 := by
  have h1 := encS_size r
  have h2 := itoaS_size r.size (by omega) (by omega)
  omega
theorem encL_le (l : List ByteArray) (h : ∀ r ∈ l, r.size ≤ 4096) : (encL l).length ≤ 4200 * l.length := by
  induction l with
  | nil => simp [encL]
  | cons r l ih =>
    rw [encL_cons, List.length_append, List.length_cons]
    have h1 := encS_le r (h r (by simp))
    have h2 := ih (fun x hx => h x (List.mem_cons_of_mem _ hx))
    have e : (encS r).data.toList.length = (encS r).size := by simp
    omega
theorem encB_size (l : List ByteArray) : (encB l).size = (encL l).length := by show (encL l).toArray.size = _; simp
theorem encL_take (l : List ByteArray) (k : Nat) (h : k < l.length) : encL (l.take k) ++ (encS l[k]).data.toList = encL (l.take (k + 1)) := by
  rw [List.take_succ_eq_append_getElem h, encL_snoc]
/-- A builder stays one over a call that makes memory. -/
theorem bld_below {B b : Nat} {l : List UInt8} {w w' : World} (h : Bld B b l w) (hb : Below w.heap.size w w') : Bld B b l w' := by
  have hk : ∀ p, Lib.BuilderAt 75 5 B b p (Lib.byteCells l) w → Lib.BuilderAt 75 5 B b p (Lib.byteCells l) w' := by
    rintro p ⟨h1, v, h2, h3, h4⟩
    exact ⟨h1, v, (hb.block b (Array.getElem?_eq_some_iff.1 h2).1).trans h2, own_below h3 hb, h4⟩
  exact h.imp (hk _) (hk _)
set_option maxHeartbeats 4000000 in
set_option maxRecDepth 100000 in
theorem encoded_any (l : List ByteArray) (A : Option Addr) (cap : Nat) (w : World) (hd : DigOk w) (hp : PowOk w) (hS : Strs w A l) (hl : l.length ≤ 5000) (hz : ∀ r ∈ l, r.size ≤ 4096) :
    Calls Tryd.prog 37 #[.slice A l.length cap] w fun e w' => e = .returned (.string (encB l)) ∧ Below w.heap.size w w' := by
  have HZ := Lib.hid hz
  have HS := Lib.hid hS
  clear hz hS
  go_enter Tryd.func37, Tryd.ntmps37
  go_wp2_with fail
  go_loopw [5, 8] (fun _ i wr => ∃ (k : Nat) (pre : List UInt8), k ≤ l.length ∧ i = .int .i64 k ∧ Bld w.heap.size w.heap.size pre wr ∧ Hid (encL (l.take k) = pre) ∧ pre.length ≤ 4200 * k ∧ Below w.heap.size w wr) (fun _ i _ => l.length - (intOf i).toNat)
  case atStart => exact ⟨0, [], Nat.zero_le _, rfl, Bld.fresh w, Lib.hid rfl, Nat.zero_le _, (Below.refl _ _).alloc (Nat.le_refl _) _⟩
  case round =>
    obtain ⟨k, pre, hk, rfl, hB, HP, hpl, hbr⟩ := hrel
    by_cases hlt : k < l.length
    · obtain ⟨b, o, rfl, hc⟩ := (HS.out.below hbr) k hlt
      have hrz := HZ.out _ (List.getElem_mem hlt)
      have HE := Lib.hid (encL_take l k hlt)
      have hez := encS_le l[k] hrz
      generalize l[k] = r at *
      go_wp2_with fail
      refine (enc_any r _ (hd.below hbr) (hp.below hbr) (by omega)).mono ?_
      rintro e w1 ⟨rfl, hb1⟩
      have hB1 : Bld w.heap.size w.heap.size pre w1 := bld_below hB hb1
      have hbr1 := bthen hbr hb1
      go_wp2_with fail
      refine (writeString_any _ _ pre (encS r) _ hB1 (by omega) hbr1.size).mono ?_
      rintro e w2 ⟨rfl, hB2, hb2⟩
      have HB2 := Lib.hid (hbr1.trans hb2)
      clear hb2
      go_wp2_with fail
      go_roundw
      case rel => exact ⟨k + 1, pre ++ (encS r).data.toList, hlt, by go_num, hB2, Lib.hid (by rw [← HE.out, HP.out]), by simp; omega, HB2.out⟩
      case measure => simp [intOf]; omega
    · have HE : Hid ((⟨pre.toArray⟩ : ByteArray) = encB l) := Lib.hid (by
        have h := HP.out
        rw [List.take_of_length_le (by omega)] at h
        rw [encB, h])
      go_wp2_with fail
      refine (bldString_any _ _ pre _ hB hbr.size).mono ?_
      rintro e w1 ⟨rfl, hb1⟩
      go_wp2_with fail
      go_ret
      exact ⟨ret_str HE.out, hbr.trans hb1⟩
set_option maxHeartbeats 4000000 in
set_option maxRecDepth 100000 in
theorem rbytes_any (l : List ByteArray) (A : Option Addr) (cap : Nat) (w : World) (hS : Strs w A l) (hl : l.length ≤ 5000) (hz : ∀ r ∈ l, r.size ≤ 4096) :
    Calls Tryd.prog 38 #[.slice A l.length cap] w fun e w' => e = .returned (.string (encB l)) ∧ Below w.heap.size w w' := by
  have HZ := Lib.hid hz
  have HS := Lib.hid hS
  clear hz hS
  go_enter Tryd.func38, Tryd.ntmps38
  go_wp2_with fail
  go_loopw [3, 4] (fun s i wr => ∃ (k : Nat) (pre : List UInt8), k ≤ l.length ∧ i = .int .i64 k ∧ s = .string ⟨pre.toArray⟩ ∧ Hid (encL (l.take k) = pre) ∧ pre.length ≤ 4200 * k ∧ Below w.heap.size w wr) (fun _ i _ => l.length - (intOf i).toNat)
  case atStart => exact ⟨0, [], Nat.zero_le _, rfl, rfl, Lib.hid rfl, Nat.zero_le _, Below.refl _ _⟩
  case round =>
    obtain ⟨k, pre, hk, rfl, rfl, HP, hpl, hbr⟩ := hrel
    by_cases hlt : k < l.length
    · obtain ⟨b, o, rfl, hc⟩ := (HS.out.below hbr) k hlt
      have hrz := HZ.out _ (List.getElem_mem hlt)
      have HE := Lib.hid (encL_take l k hlt)
      have hez := encS_le l[k] hrz
      generalize l[k] = r at *
      have hpz : (⟨pre.toArray⟩ : ByteArray).size = pre.length := by show pre.toArray.size = _; simp
      have hcc : ¬ 9223372036854775807 < (⟨pre.toArray⟩ : ByteArray).size + (encS r).size := by omega
      have HA : Hid ((⟨pre.toArray⟩ : ByteArray) ++ encS r = ⟨(pre ++ (encS r).data.toList).toArray⟩) := Lib.hid (by
        apply ByteArray.ext
        simp [ByteArray.data_append])
      generalize (⟨pre.toArray⟩ : ByteArray) = ps at *
      clear hpz
      go_wp2_with fail
      refine (renc_any r _ (by omega)).mono ?_
      rintro e w1 ⟨rfl, hb1⟩
      have hbr1 := Lib.hid (bthen hbr hb1)
      clear hb1
      go_wp2_with fail
      go_roundw
      case rel => exact ⟨k + 1, pre ++ (encS r).data.toList, hlt, by go_num, congrArg Value.string HA.out, Lib.hid (by rw [← HE.out, HP.out]), by simp; omega, hbr1.out⟩
      case measure => simp [intOf]; omega
    · have HE : Hid ((⟨pre.toArray⟩ : ByteArray) = encB l) := Lib.hid (by
        have h := HP.out
        rw [List.take_of_length_le (by omega)] at h
        rw [encB, h])
      go_wp2_with fail
      go_ret
      exact ⟨ret_str HE.out, hbr⟩
end Go.Proofs.YtkhdhelhkokdcaaDoor
