/- Joined: LawKit, DigPlain, Kit, DigSum, DigHex, DigText, DigMac, Errs, FoldWord, FoldClean, RefClean, Clock, Strs, ClmPlain. -/
import Derived.Test.YtiiioefjdebggaaGreatDoorProg
import Derived.WalkKit
import Derived.ProofKit
import Derived.OpenShut
import Derived.LaidMore
import Derived.MakeChecks
import Derived.Stop.LaidErr
import Derived.Deep.DeepHandedRow
import Derived.Deep.DeepWitnessRowRef
import Derived.Lib.LaidTab
import Derived.Laws.Bits64
import Derived.Lib.Hide
import Derived.Lib.Strings
import Derived.WalkSpells
import Derived.WalkLawsBesides
import Derived.Test.YtiiioefjdebggaaGreatDoorShelf
import Derived.Lib.AppendIntMem
import Derived.Lib.ItoaLen
import Derived.Lib.ItoaMem
import Derived.Laws.RangeAny
import Derived.Laws.OwnMore
/- What all laws of this seat share: a call that only makes memory leaves the arguments as they were. -/
namespace Go.Proofs.YtiiioefjdebggaaGreatDoor
open Go.ChangeShapes Go.WideShapes Go.ChangeAt Go.RowKit

theorem own : ownKnob Tryz.prog.godebug = none := by kernel_rfl
theorem laidOut : laidOutB Tryz.prog = true := by kernel_rfl
/-- Arguments read behind the call as before it. -/
theorem trodAll_below {H : Type} {enc : TypeId × Value → H} {P : Program} {W W' : World} (hl : laidOutB P = true) (hb : Below W.heap.size W W') :
    ∀ {ts : List TypeId} {vs : List Value} {ds : List (DataW H)} {ps : List MemPlace}, (ts.all fun t => P.readableRec t && decide (t < P.types.size)) = true → DataW.TrodAll enc P W 0 (fun _ => true) true ts vs ds ps →
      (∀ x ∈ ps, x.block < W.heap.size) → DataW.TrodAll enc P W' 0 (fun b => decide (b < W.heap.size)) true ts vs ds ps
  | [], [], [], _, _, h, _ => h
  | t :: ts, v :: vs, d :: ds, _, hts, h, hlt => by
    obtain ⟨p, q, h1, h2, rfl⟩ := h
    rw [List.all_cons, Bool.and_eq_true, Bool.and_eq_true, decide_eq_true_eq] at hts
    exact ⟨p, q, Below.trod hl hts.1.1 hts.1.2 h1 hb (fun x hx => hlt x (List.mem_append_left _ hx)), trodAll_below hl hb hts.2 h2 (fun x hx => hlt x (List.mem_append_right _ hx)), rfl⟩
  | [], _ :: _, _, _, _, h, _ => h.elim
  | [], [], _ :: _, _, _, h, _ => h.elim
  | _ :: _, [], _, _, _, h, _ => h.elim
  | _ :: _, _ :: _, [], _, _, h, _ => h.elim
/-- A law's post, where the call answers true and only makes memory. -/
theorem law_post {H : Type} {enc : TypeId × Value → H} {P : Program} {f : Func} {s : ChangeSpec} {tb : TypeId} {W W' : World} {args : Array Value} {ds : List (DataW H)} {before : List MemPlace}
    (hl : laidOutB P = true) (hts : (f.params.toList.all fun t => P.readableRec t && decide (t < P.types.size)) = true) (hres : f.resultTypes = #[tb]) (hbool : P.underlying tb = some .bool)
    (hW : DataW.Whole enc P f.params.toList s.vars false W args.toList ds [] before) (hv : s.vars = []) (hfn : s.fn H (ds ++ []) = { results := [.lit (.bool true)], args := ds })
    (hA : DataW.TrodAll enc P W 0 (fun _ => true) true f.params.toList args.toList ds before) (hb : Below W.heap.size W W') :
    s.post enc P f false true false false W args (.bool true) W' := by
  refine ⟨ds, [], before, [], before, [], hW, ?_, ?_, ?_, World.keptBut_mono (fun p hp => ⟨hp, Or.inr (Or.inl hp)⟩) (hb.frame _), fun h => by cases h⟩
  · rw [hfn, hres]
    exact trodAll_cons_mk (shut_bool hbool true) trodAll_mk0
  · rw [hfn]
    exact trodAll_below hl hb hts hA (fun x hx => hW.lt x hx)
  · rw [hfn, hv]
    exact rfl
/-- A table's block. -/
theorem tab_block {P : Program} {W : World} {name : String} {k : IntKind} {zs : List Int} {g : Nat} (hg : P.globalNamed name = some g) (h : Lib.TabIs P W name k zs) :
    ∃ t fr, W.heap[g]? = some (.cells (zs.map fun z => Value.int k z).toArray t fr) := by
  unfold Lib.TabIs World.var? at h
  simp only [hg, Option.bind_some] at h
  split at h
  · rename_i cs t fr hb
    injection h with h
    exact ⟨t, fr, by rw [hb, h]⟩
  · cases h
theorem tab_lt {P : Program} {W : World} {name : String} {k : IntKind} {zs : List Int} {g : Nat} (hg : P.globalNamed name = some g) (h : Lib.TabIs P W name k zs) : g < W.heap.size := by
  obtain ⟨t, fr, h⟩ := tab_block hg h
  exact (Array.getElem?_eq_some_iff.1 h).1
end Go.Proofs.YtiiioefjdebggaaGreatDoor

/- Plain functions for the layer digest: what Sum, Hex, ReadHex, Mac .. compute, on byte arrays and integers. No program in sight. -/
namespace Go.Proofs.YtiiioefjdebggaaGreatDoor
open Go.RowKit

/-- One round of Sum's loop. -/
def sumStep (h : Int) (c : UInt8) : Int := IntKind.u64.wrap (bits BinOp.xor IntKind.u64 h (IntKind.u64.wrap (c.toNat : Int)) * 1099511628211)
/-- The loop. -/
def sumRun (l : List UInt8) : Int := l.foldl sumStep 14695981039346656037
/-- The final mixing. -/
def sumMix (z : Int) : Int :=
  (bits BinOp.xor IntKind.u64
              (IntKind.u64.wrap
                (bits BinOp.xor IntKind.u64
                    (IntKind.u64.wrap (bits BinOp.xor IntKind.u64 z (z / 8589934592) * 18397679294719823053))
                    (IntKind.u64.wrap (bits BinOp.xor IntKind.u64 z (z / 8589934592) * 18397679294719823053) /
                      8589934592) *
                  14181476777654086739))
              (IntKind.u64.wrap
                  (bits BinOp.xor IntKind.u64
                      (IntKind.u64.wrap (bits BinOp.xor IntKind.u64 z (z / 8589934592) * 18397679294719823053))
                      (IntKind.u64.wrap (bits BinOp.xor IntKind.u64 z (z / 8589934592) * 18397679294719823053) /
                        8589934592) *
                    14181476777654086739) /
                8589934592))
def sumS (s : ByteArray) : Int := sumMix (sumRun s.data.toList)

theorem take_snoc (s : ByteArray) (k : Nat) (h : k < s.size) : s.data.toList.take (k + 1) = s.data.toList.take k ++ [s[k]] := by
  rw [List.take_succ_eq_append_getElem (by simpa using h)]; rfl
theorem sumRun_snoc (s : ByteArray) (k : Nat) (h : k < s.size) : sumRun (s.data.toList.take (k + 1)) = IntKind.u64.wrap (bits BinOp.xor IntKind.u64 (sumRun (s.data.toList.take k)) (IntKind.u64.wrap (s[k].toNat : Int)) * 1099511628211) := by
  rw [take_snoc s k h]; unfold sumRun; rw [List.foldl_append]; rfl
theorem sumRun_all (s : ByteArray) (k : Nat) (h : ¬ k < s.size) : sumRun (s.data.toList.take k) = sumRun s.data.toList := by
  rw [List.take_of_length_le]; simp; have : s.size = s.data.size := rfl; omega

/-- x & 15 on uint64. -/
theorem and15 (x : Int) : bits BinOp.and IntKind.u64 x 15 = x % 16 := by
  show IntKind.u64.wrap ((BitVec.ofInt 64 x &&& BitVec.ofInt 64 15).toNat : Int) = _
  have h1 : (BitVec.ofInt 64 x).toNat = (x % 18446744073709551616).toNat := by rw [BitVec.toNat_ofInt]; rfl
  have h2 : (BitVec.ofInt 64 15).toNat = 15 := by decide
  rw [BitVec.toNat_and, h1, h2, show (15 : Nat) = 2 ^ 4 - 1 from rfl, Nat.and_two_pow_sub_one_eq_mod, IntKind.wrap_u64]
  omega

/-- The digit with a value below 16. -/
def hexDig (d : Nat) : UInt8 := if d < 10 then UInt8.ofNat (48 + d) else UInt8.ofNat (87 + d)
/-- The last i hexadecimal digits of n. -/
def hexTail : Nat → Int → List UInt8
  | 0, _ => []
  | i + 1, n => hexDig (n / 16 ^ i % 16).toNat :: hexTail i n
/-- The 16 hexadecimal digits of n. -/
def hexS (n : Int) : ByteArray := ⟨(hexTail 16 n).toArray⟩
theorem hexTail_length (i : Nat) (n : Int) : (hexTail i n).length = i := by
  induction i with
  | zero => rfl
  | succ i ih => simp [hexTail, ih]
theorem hexS_size (n : Int) : (hexS n).size = 16 := by
  show (hexTail 16 n).toArray.size = 16
  simp [hexTail_length]
/-- What holds in identityref03.Hex behind k rounds. -/
def HexAt (n : Int) (k : Nat) (z : Int) (t : ByteArray) : Prop := z = n / 16 ^ k ∧ t = ⟨(hexTail k n).toArray⟩
theorem HexAt.zero (n : Int) : HexAt n 0 n ⟨#[]⟩ := ⟨by simp, rfl⟩
theorem digit_extract (d : Nat) (h : d < 16) : (⟨#[48, 49, 50, 51, 52, 53, 54, 55, 56, 57, 97, 98, 99, 100, 101, 102]⟩ : ByteArray).extract d (d + 1) = ⟨#[hexDig d]⟩ := by
  have : ∀ d : Fin 16, (⟨#[48, 49, 50, 51, 52, 53, 54, 55, 56, 57, 97, 98, 99, 100, 101, 102]⟩ : ByteArray).extract d.1 (d.1 + 1) = ⟨#[hexDig d.1]⟩ := by decide +kernel
  exact this ⟨d, h⟩
theorem HexAt.step {n : Int} {k : Nat} {z : Int} {t : ByteArray} (h : HexAt n k z t) (hlt : k < 16) (h0 : 0 ≤ n) (h1 : n < 18446744073709551616) :
    0 ≤ IntKind.u64.wrap (z.tdiv 16) ∧ ((⟨#[48, 49, 50, 51, 52, 53, 54, 55, 56, 57, 97, 98, 99, 100, 101, 102]⟩ : ByteArray).extract (z % 16).toNat (z % 16 + 1).toNat ++ t).size ≤ 16 ∧ HexAt n (k + 1) (IntKind.u64.wrap (z.tdiv 16)) ((⟨#[48, 49, 50, 51, 52, 53, 54, 55, 56, 57, 97, 98, 99, 100, 101, 102]⟩ : ByteArray).extract (z % 16).toNat (z % 16 + 1).toNat ++ t) := by
  obtain ⟨rfl, rfl⟩ := h
  have p16 : (0 : Int) < 16 ^ k := Int.pow_pos (by decide)
  have z0 : 0 ≤ n / 16 ^ k := Int.ediv_nonneg h0 (by omega)
  have z1 : n / 16 ^ k ≤ n := Int.ediv_le_self _ h0
  have hw : IntKind.u64.wrap ((n / 16 ^ k).tdiv 16) = n / 16 ^ (k + 1) := by
    rw [Int.tdiv_eq_ediv_of_nonneg z0, IntKind.wrap_u64, Int.emod_eq_of_lt (by omega) (by omega), Int.pow_succ, Int.ediv_ediv_of_nonneg (by omega)]
  have hx : (⟨#[48, 49, 50, 51, 52, 53, 54, 55, 56, 57, 97, 98, 99, 100, 101, 102]⟩ : ByteArray).extract (n / 16 ^ k % 16).toNat (n / 16 ^ k % 16 + 1).toNat ++ ⟨(hexTail k n).toArray⟩ = ⟨(hexTail (k + 1) n).toArray⟩ := by
    have e : (n / 16 ^ k % 16 + 1).toNat = (n / 16 ^ k % 16).toNat + 1 := by omega
    rw [e, digit_extract _ (by omega)]
    apply ByteArray.ext
    simp [hexTail, ByteArray.data_append]
  rw [hx, hw]
  refine ⟨Int.ediv_nonneg h0 (Int.le_of_lt (Int.pow_pos (by decide))), ?_, rfl, rfl⟩
  show (hexTail (k + 1) n).toArray.size ≤ 16
  simp [hexTail_length]; omega
theorem HexAt.done {n : Int} {k : Nat} {z : Int} {t : ByteArray} (h : HexAt n k z t) (hk : k ≤ 16) (hlt : ¬ k < 16) : t = hexS n := by
  obtain ⟨rfl, rfl⟩ := h
  obtain rfl : k = 16 := by omega
  rfl
/-- The cells of digest.Hex's array when i digits are written. -/
def hexCells (i : Nat) (n : Int) : Array Value := (List.replicate (16 - i) (Value.int IntKind.u8 0) ++ (hexTail i n).map (fun c => Value.int IntKind.u8 (c.toNat : Int))).toArray
end Go.Proofs.YtiiioefjdebggaaGreatDoor

/- Small lemmas for all walks of this seat. -/
namespace Go.Proofs.YtiiioefjdebggaaGreatDoor
open Go.RowKit

theorem ret_val {a b : Value} (h : a = b) : Ending.returned a = .returned b := by rw [h]
theorem ret_str {a b : ByteArray} (h : a = b) : Ending.returned (.string a) = .returned (.string b) := by rw [h]
theorem ret_int {k : IntKind} {a b : Int} (h : a = b) : Ending.returned (.int k a) = .returned (.int k b) := by rw [h]
theorem ret_bool {a b : Bool} (h : a = b) : Ending.returned (.bool a) = .returned (.bool b) := by rw [h]
/-- What stood in memory before stands there still. -/
theorem bcell {W w1 : World} (hb : Below W.heap.size W w1) : (∀ b o, b < W.heap.size → w1.cell? ⟨b, o, none⟩ = W.cell? ⟨b, o, none⟩) ∧ (∀ b o, b < W.heap.size → w1.frozen? ⟨b, o, none⟩ = W.frozen? ⟨b, o, none⟩) :=
  ⟨fun b o h => hb.cell (p := ⟨b, o, none⟩) h, fun b o h => hb.frozen (p := ⟨b, o, none⟩) h⟩
/-- A step after another one. -/
theorem bthen {W w1 w2 : World} (h1 : Below W.heap.size W w1) (h2 : Below w1.heap.size w1 w2) : Below W.heap.size W w2 := h1.trans (h2.mono h1.size)
theorem addr_add (b j : Nat) : (⟨b, 0, none⟩ : Addr).add j = ⟨b, j, none⟩ := by
  by_cases h : j = 0 <;> simp [Addr.add, h]
theorem addr_add_off (b o j : Nat) : (⟨b, o, none⟩ : Addr).add j = ⟨b, o + j, none⟩ := by
  by_cases h : j = 0 <;> simp [Addr.add, h]
/-- An owned row stays owned over a call that makes memory. -/
theorem own_below {w w' : World} {base : Nat} {e : TypeId} {size n : Nat} {v : Value} {xs : List Value} (h : w.ownsRow base e size v n xs) (hb : Below w.heap.size w w') : w'.ownsRow base e size v n xs := by
  refine ⟨h.1, ?_⟩
  rcases h.2 with hn | ⟨g, cap, cur, rfl, hg, hh, rest⟩
  · exact .inl hn
  · exact .inr ⟨g, cap, cur, rfl, hg, (hb.block g (Array.getElem?_eq_some_iff.1 hh).1).trans hh, rest⟩
theorem toList_inj {a b : ByteArray} (h : a.toList = b.toList) : a = b := by
  rw [Lib.toList_data, Lib.toList_data] at h
  exact ByteArray.ext (Array.toList_inj.1 h)
/-- Two strings that differ, as the walk asks it. -/
theorem str_ne {a b : ByteArray} (h : a ≠ b) : (a.toList == b.toList) = false := by
  rw [beq_eq_false_iff_ne]; exact fun e => h (toList_inj e)
end Go.Proofs.YtiiioefjdebggaaGreatDoor

/- digest.Sum and identityref03.Sum compute sumS. -/
namespace Go.Proofs.YtiiioefjdebggaaGreatDoor
open Go.RowKit

set_option maxHeartbeats 400000 in
theorem sum_any (s : ByteArray) (w : World) (hs : s.size ≤ 9223372036854775807) :
    Calls Tryz.prog 64 #[.string s] w fun e w' => e = .returned (.int .u64 (sumS s)) ∧ w = w' := by
  go_enter Tryz.func64, Tryz.ntmps64
  go_wp2
  go_loop [3, 4, 7] (fun h _ j => ∃ k : Nat, k ≤ s.size ∧ j = .int .i64 k ∧ h = .int .u64 (sumRun (s.data.toList.take k))) (fun _ _ i => s.size - (intOf i).toNat)
  case atStart => exact ⟨0, Nat.zero_le _, rfl, rfl⟩
  case round =>
    obtain ⟨k, hk, rfl, rfl⟩ := hrel
    by_cases hlt : k < s.size
    · have HS := Lib.hid (sumRun_snoc s k hlt)
      go_wp2
      go_round
      case rel => exact ⟨k + 1, by omega, by go_num, by rw [HS.out]⟩
      case measure => simp [intOf]; omega
    · have HS := Lib.hid (sumRun_all s k hlt)
      go_wp2
      go_ret
      exact ⟨by rw [HS.out]; rfl, rfl⟩

set_option maxHeartbeats 400000 in
theorem rsum_any (s : ByteArray) (w : World) (hs : s.size ≤ 9223372036854775807) :
    Calls Tryz.prog 135 #[.string s] w fun e w' => e = .returned (.int .u64 (sumS s)) ∧ w = w' := by
  go_enter Tryz.func135, Tryz.ntmps135
  go_wp2
  go_loop [3, 4] (fun h j => ∃ k : Nat, k ≤ s.size ∧ j = .int .i64 k ∧ h = .int .u64 (sumRun (s.data.toList.take k))) (fun _ i => s.size - (intOf i).toNat)
  case atStart => exact ⟨0, Nat.zero_le _, rfl, rfl⟩
  case round =>
    obtain ⟨k, hk, rfl, rfl⟩ := hrel
    by_cases hlt : k < s.size
    · have HS := Lib.hid (sumRun_snoc s k hlt)
      go_wp2
      go_round
      case rel => exact ⟨k + 1, by omega, by go_num, by rw [HS.out]⟩
      case measure => simp [intOf]; omega
    · have HS := Lib.hid (sumRun_all s k hlt)
      go_wp2
      go_ret
      exact ⟨by rw [HS.out]; rfl, rfl⟩
end Go.Proofs.YtiiioefjdebggaaGreatDoor

/- digest.Hex and identityref03.Hex compute hexS. -/
namespace Go.Proofs.YtiiioefjdebggaaGreatDoor
open Go.RowKit

set_option maxHeartbeats 400000 in
theorem rhex_any (n : Int) (w : World) (h0 : 0 ≤ n) (h1 : n < 18446744073709551616) :
    Calls Tryz.prog 134 #[.int .u64 n] w fun e w' => e = .returned (.string (hexS n)) ∧ w = w' := by
  have H1 := Lib.hid h1
  clear h1
  go_enter Tryz.func134, Tryz.ntmps134
  go_wp2
  go_loop [0, 3, 4, 5] (fun m s j d => ∃ k : Nat, ∃ z : Int, ∃ t : ByteArray, 0 ≤ z ∧ t.size ≤ 16 ∧ k ≤ 16 ∧ HexAt n k z t ∧ j = .int .i64 k ∧ m = .int .u64 z ∧ s = .string t) (fun _ _ i _ => 16 - (intOf i).toNat)
  case atStart => exact ⟨0, _, _, h0, by decide, by omega, HexAt.zero n, rfl, rfl, rfl⟩
  case round =>
    obtain ⟨k, z, t, hz, ht, hk, hat, rfl, rfl, rfl⟩ := hrel
    by_cases hlt : k < 16
    · have hs1 := Lib.hid (hat.step hlt h0 H1.out)
      clear hat
      go_wp2
      go_round
      case rel => exact ⟨k + 1, _, _, hs1.out.1, hs1.out.2.1, by omega, hs1.out.2.2, by go_num, rfl, rfl⟩
      case measure => simp [intOf]; omega
    · have hs := Lib.hid (hat.done hk hlt)
      go_wp2
      go_ret
      exact ⟨congrArg (fun t => Ending.returned (.string t)) hs.out, rfl⟩

/-- The package's table of digits, as its block holds it. -/
def digCells : Array Value := #[.int .u8 48, .int .u8 49, .int .u8 50, .int .u8 51, .int .u8 52, .int .u8 53, .int .u8 54, .int .u8 55, .int .u8 56, .int .u8 57, .int .u8 97, .int .u8 98, .int .u8 99, .int .u8 100, .int .u8 101, .int .u8 102]
/-- The package's table of digits is laid. -/
def DigOk (w : World) : Prop := ∃ t fr, w.heap[0]? = some (.cells digCells t fr)
theorem DigOk.lt {w : World} (h : DigOk w) : 0 < w.heap.size := by
  obtain ⟨t, fr, h⟩ := h
  exact (Array.getElem?_eq_some_iff.1 h).1
theorem DigOk.below {w w' : World} (h : DigOk w) (hb : Below w.heap.size w w') : DigOk w' := by
  have hl := h.lt
  obtain ⟨t, fr, h⟩ := h
  exact ⟨t, fr, (hb.block _ hl).trans h⟩
theorem DigOk.drew {w : World} (h : DigOk w) : DigOk w.drew := h
theorem digCells_at (k : Nat) (h : k < 16) : digCells[k]? = some (.int .u8 ((hexDig k).toNat : Int)) := by
  rcases k with _|_|_|_|_|_|_|_|_|_|_|_|_|_|_|_|k <;> first | omega | rfl
theorem DigOk.cells {w : World} (h : DigOk w) : 0 < w.heap.size ∧ ∀ k : Nat, k < 16 → w.cell? ⟨0, k, none⟩ = some (.int .u8 ((hexDig k).toNat : Int)) := by
  refine ⟨h.lt, fun k hk => ?_⟩
  obtain ⟨t, fr, h⟩ := h
  unfold World.cell?
  simp [h, digCells_at k hk]
theorem hexS_lit (n : Int) : hexS n = ⟨#[hexDig (n / 1152921504606846976 % 16).toNat, hexDig (n / 72057594037927936 % 16).toNat, hexDig (n / 4503599627370496 % 16).toNat, hexDig (n / 281474976710656 % 16).toNat, hexDig (n / 17592186044416 % 16).toNat, hexDig (n / 1099511627776 % 16).toNat, hexDig (n / 68719476736 % 16).toNat, hexDig (n / 4294967296 % 16).toNat, hexDig (n / 268435456 % 16).toNat, hexDig (n / 16777216 % 16).toNat, hexDig (n / 1048576 % 16).toNat, hexDig (n / 65536 % 16).toNat, hexDig (n / 4096 % 16).toNat, hexDig (n / 256 % 16).toNat, hexDig (n / 16 % 16).toNat, hexDig (n % 16).toNat]⟩ := by
  simp [hexS, hexTail]
/-- The conversion of the array's 16 bytes to a string. -/
theorem conv16 (w : World) (b0 b1 b2 b3 b4 b5 b6 b7 b8 b9 b10 b11 b12 b13 b14 b15 : UInt8) : (convert 107 9 (.slice (some ⟨w.heap.size, 0, none⟩) 16 16)).run Tryz.prog (w.alloc (.cells #[.int .u8 (b0.toNat : Int), .int .u8 (b1.toNat : Int), .int .u8 (b2.toNat : Int), .int .u8 (b3.toNat : Int), .int .u8 (b4.toNat : Int), .int .u8 (b5.toNat : Int), .int .u8 (b6.toNat : Int), .int .u8 (b7.toNat : Int), .int .u8 (b8.toNat : Int), .int .u8 (b9.toNat : Int), .int .u8 (b10.toNat : Int), .int .u8 (b11.toNat : Int), .int .u8 (b12.toNat : Int), .int .u8 (b13.toNat : Int), .int .u8 (b14.toNat : Int), .int .u8 (b15.toNat : Int)] 124)) =
    .ok (.string ⟨#[b0, b1, b2, b3, b4, b5, b6, b7, b8, b9, b10, b11, b12, b13, b14, b15]⟩) (w.alloc (.cells #[.int .u8 (b0.toNat : Int), .int .u8 (b1.toNat : Int), .int .u8 (b2.toNat : Int), .int .u8 (b3.toNat : Int), .int .u8 (b4.toNat : Int), .int .u8 (b5.toNat : Int), .int .u8 (b6.toNat : Int), .int .u8 (b7.toNat : Int), .int .u8 (b8.toNat : Int), .int .u8 (b9.toNat : Int), .int .u8 (b10.toNat : Int), .int .u8 (b11.toNat : Int), .int .u8 (b12.toNat : Int), .int .u8 (b13.toNat : Int), .int .u8 (b14.toNat : Int), .int .u8 (b15.toNat : Int)] 124)) := by
  refine run_convert_bytes_back (P := Tryz.prog) _ _ _ 5 ⟨w.heap.size, 0, none⟩ 16 [b0, b1, b2, b3, b4, b5, b6, b7, b8, b9, b10, b11, b12, b13, b14, b15] Tryz.underlying107 Tryz.underlying5 Tryz.underlying9 ?_
  intro j hj
  have : ∀ j : Nat, j < 16 → (w.alloc (.cells #[.int .u8 (b0.toNat : Int), .int .u8 (b1.toNat : Int), .int .u8 (b2.toNat : Int), .int .u8 (b3.toNat : Int), .int .u8 (b4.toNat : Int), .int .u8 (b5.toNat : Int), .int .u8 (b6.toNat : Int), .int .u8 (b7.toNat : Int), .int .u8 (b8.toNat : Int), .int .u8 (b9.toNat : Int), .int .u8 (b10.toNat : Int), .int .u8 (b11.toNat : Int), .int .u8 (b12.toNat : Int), .int .u8 (b13.toNat : Int), .int .u8 (b14.toNat : Int), .int .u8 (b15.toNat : Int)] 124)).cell? ⟨w.heap.size, j, none⟩ = some (.int .u8 ((([b0, b1, b2, b3, b4, b5, b6, b7, b8, b9, b10, b11, b12, b13, b14, b15] : List UInt8).getD j 0).toNat : Int)) := by
    intro j hj
    rcases j with _|_|_|_|_|_|_|_|_|_|_|_|_|_|_|_|j <;> first | omega | simp [go_sem]
  have h := this j (by simpa using hj)
  rw [List.getD_eq_getElem?_getD, List.getElem?_eq_getElem hj, Option.getD_some] at h
  rw [addr_add]
  exact h

set_option maxHeartbeats 1000000 in
theorem hex_any (n : Int) (w : World) (hd : DigOk w) :
    Calls Tryz.prog 63 #[.int .u64 n] w fun e w' => e = .returned (.string (hexS n)) ∧ Below w.heap.size w w' := by
  obtain ⟨hg, hc⟩ := hd.cells
  have a15 := and15
  have e16 := Lib.hid (hexS_lit n)
  have cv := conv16 w
  have q0 : 0 ≤ n % 16 := by omega
  have r0 : n % 16 < 16 := by omega
  have c0 := hc (n % 16).toNat (by omega)
  have q1 : 0 ≤ n / 16 % 16 := by omega
  have r1 : n / 16 % 16 < 16 := by omega
  have c1 := hc (n / 16 % 16).toNat (by omega)
  have q2 : 0 ≤ n / 256 % 16 := by omega
  have r2 : n / 256 % 16 < 16 := by omega
  have c2 := hc (n / 256 % 16).toNat (by omega)
  have q3 : 0 ≤ n / 4096 % 16 := by omega
  have r3 : n / 4096 % 16 < 16 := by omega
  have c3 := hc (n / 4096 % 16).toNat (by omega)
  have q4 : 0 ≤ n / 65536 % 16 := by omega
  have r4 : n / 65536 % 16 < 16 := by omega
  have c4 := hc (n / 65536 % 16).toNat (by omega)
  have q5 : 0 ≤ n / 1048576 % 16 := by omega
  have r5 : n / 1048576 % 16 < 16 := by omega
  have c5 := hc (n / 1048576 % 16).toNat (by omega)
  have q6 : 0 ≤ n / 16777216 % 16 := by omega
  have r6 : n / 16777216 % 16 < 16 := by omega
  have c6 := hc (n / 16777216 % 16).toNat (by omega)
  have q7 : 0 ≤ n / 268435456 % 16 := by omega
  have r7 : n / 268435456 % 16 < 16 := by omega
  have c7 := hc (n / 268435456 % 16).toNat (by omega)
  have q8 : 0 ≤ n / 4294967296 % 16 := by omega
  have r8 : n / 4294967296 % 16 < 16 := by omega
  have c8 := hc (n / 4294967296 % 16).toNat (by omega)
  have q9 : 0 ≤ n / 68719476736 % 16 := by omega
  have r9 : n / 68719476736 % 16 < 16 := by omega
  have c9 := hc (n / 68719476736 % 16).toNat (by omega)
  have q10 : 0 ≤ n / 1099511627776 % 16 := by omega
  have r10 : n / 1099511627776 % 16 < 16 := by omega
  have c10 := hc (n / 1099511627776 % 16).toNat (by omega)
  have q11 : 0 ≤ n / 17592186044416 % 16 := by omega
  have r11 : n / 17592186044416 % 16 < 16 := by omega
  have c11 := hc (n / 17592186044416 % 16).toNat (by omega)
  have q12 : 0 ≤ n / 281474976710656 % 16 := by omega
  have r12 : n / 281474976710656 % 16 < 16 := by omega
  have c12 := hc (n / 281474976710656 % 16).toNat (by omega)
  have q13 : 0 ≤ n / 4503599627370496 % 16 := by omega
  have r13 : n / 4503599627370496 % 16 < 16 := by omega
  have c13 := hc (n / 4503599627370496 % 16).toNat (by omega)
  have q14 : 0 ≤ n / 72057594037927936 % 16 := by omega
  have r14 : n / 72057594037927936 % 16 < 16 := by omega
  have c14 := hc (n / 72057594037927936 % 16).toNat (by omega)
  have q15 : 0 ≤ n / 1152921504606846976 % 16 := by omega
  have r15 : n / 1152921504606846976 % 16 < 16 := by omega
  have c15 := hc (n / 1152921504606846976 % 16).toNat (by omega)
  clear hc
  go_enter Tryz.func63, Tryz.ntmps63
  go_wp2
  refine wp_loop_rounds 17 ?_
  rw [rounds_succ]
  go_wp2
  clear c0 q0 r0
  rw [rounds_succ]
  go_wp2
  clear c1 q1 r1
  rw [rounds_succ]
  go_wp2
  clear c2 q2 r2
  rw [rounds_succ]
  go_wp2
  clear c3 q3 r3
  rw [rounds_succ]
  go_wp2
  clear c4 q4 r4
  rw [rounds_succ]
  go_wp2
  clear c5 q5 r5
  rw [rounds_succ]
  go_wp2
  clear c6 q6 r6
  rw [rounds_succ]
  go_wp2
  clear c7 q7 r7
  rw [rounds_succ]
  go_wp2
  clear c8 q8 r8
  rw [rounds_succ]
  go_wp2
  clear c9 q9 r9
  rw [rounds_succ]
  go_wp2
  clear c10 q10 r10
  rw [rounds_succ]
  go_wp2
  clear c11 q11 r11
  rw [rounds_succ]
  go_wp2
  clear c12 q12 r12
  rw [rounds_succ]
  go_wp2
  clear c13 q13 r13
  rw [rounds_succ]
  go_wp2
  clear c14 q14 r14
  rw [rounds_succ]
  go_wp2
  clear c15 q15 r15
  rw [rounds_succ]
  go_wp2
  go_ret
  exact ⟨congrArg (fun t => Ending.returned (.string t)) e16.out.symm, (Below.refl _ _).alloc (Nat.le_refl _) _⟩
end Go.Proofs.YtiiioefjdebggaaGreatDoor

/- digest.Text, digest.Chain and their references compute textS. -/
namespace Go.Proofs.YtiiioefjdebggaaGreatDoor
open Go.RowKit

theorem sumMix_range (z : Int) (_h0 : 0 ≤ z) (_h1 : z < 18446744073709551616) : 0 ≤ sumMix z ∧ sumMix z < 18446744073709551616 := by
  unfold sumMix
  generalize IntKind.u64.wrap _ = a
  generalize a / 8589934592 = b
  show 0 ≤ IntKind.u64.wrap _ ∧ IntKind.u64.wrap _ < _
  rw [IntKind.wrap_u64]
  omega
theorem sumS_range (s : ByteArray) : 0 ≤ sumS s ∧ sumS s < 18446744073709551616 := by
  unfold sumS sumMix
  generalize IntKind.u64.wrap _ = a
  generalize a / 8589934592 = b
  show 0 ≤ IntKind.u64.wrap _ ∧ IntKind.u64.wrap _ < _
  rw [IntKind.wrap_u64]
  omega
/-- The hexadecimal digest of a string. -/
def textS (s : ByteArray) : ByteArray := hexS (sumS s)
theorem textS_size (s : ByteArray) : (textS s).size = 16 := hexS_size _

set_option maxHeartbeats 400000 in
theorem text_any (s : ByteArray) (w : World) (hd : DigOk w) (hs : s.size ≤ 9223372036854775807) :
    Calls Tryz.prog 24 #[.string s] w fun e w' => e = .returned (.string (textS s)) ∧ Below w.heap.size w w' := by
  have HR := Lib.hid (sumS_range s)
  go_enter Tryz.func24, Tryz.ntmps24
  go_wp2_with (first | (go_at_call 64; refine (sum_any _ _ hs).mono ?_; rintro e w' ⟨rfl, rfl⟩) | (go_at_call 63; refine (hex_any _ _ hd).mono ?_; rintro e w' ⟨rfl, hb⟩))
  go_ret
  exact ⟨rfl, hb⟩

set_option maxHeartbeats 400000 in
theorem rtext_any (s : ByteArray) (w : World) (hs : s.size ≤ 9223372036854775807) :
    Calls Tryz.prog 93 #[.string s] w fun e w' => e = .returned (.string (textS s)) ∧ w = w' := by
  have HR := Lib.hid (sumS_range s)
  go_enter Tryz.func93, Tryz.ntmps93
  go_wp2_with (first | (go_at_call 135; refine (rsum_any _ _ hs).mono ?_; rintro e w' ⟨rfl, rfl⟩) | (go_at_call 134; refine (rhex_any _ _ HR.out.1 HR.out.2).mono ?_; rintro e w' ⟨rfl, rfl⟩))
  go_ret
  exact ⟨rfl, rfl⟩

/-- "|". -/
def barS : ByteArray := ⟨#[124]⟩
theorem bar_size (p s : ByteArray) (hp : p.size ≤ 1000000) (hs : s.size ≤ 1000000) : (p ++ ⟨#[124]⟩ ++ s).size ≤ 9223372036854775807 := by
  simp only [ByteArray.size_append]
  have : (⟨#[124]⟩ : ByteArray).size = 1 := rfl
  omega
def chainS (p s : ByteArray) : ByteArray := textS (p ++ barS ++ s)

/-- The salted digest behind k rounds. -/
def iterN (salt h : ByteArray) : Nat → ByteArray
  | 0 => h
  | k + 1 => textS (iterN salt h k ++ barS ++ salt)
def iterateS (salt s : ByteArray) (rounds : Int) : ByteArray := iterN salt (textS (salt ++ barS ++ s)) (min (max rounds 0) 64).toNat
theorem iterN_size (salt s : ByteArray) (k : Nat) : (iterN salt (textS s) k).size = 16 := by
  cases k <;> simp [iterN, textS_size]

attribute [irreducible] textS
end Go.Proofs.YtiiioefjdebggaaGreatDoor

/- digest.Mac and its reference compute macS. -/
namespace Go.Proofs.YtiiioefjdebggaaGreatDoor
open Go.RowKit

/-- The table of powers of ten is laid. -/
def PowOk (w : World) : Prop := (∃ g, Tryz.prog.globalNamed "internal/strconv.uint64pow10" = some g ∧ g < w.heap.size) ∧ Lib.TabIs Tryz.prog w "internal/strconv.uint64pow10" .u64 Lib.pow10Tab
theorem PowOk.below {w w' : World} (h : PowOk w) (hb : Below w.heap.size w w') : PowOk w' := by
  obtain ⟨⟨g, hg, hl⟩, ht⟩ := h
  exact ⟨⟨g, hg, Nat.lt_of_lt_of_le hl hb.size⟩, var?_below hb hg hl ht⟩
/-- The decimal form of a number, as a string. -/
def itoaS (n : Int) : ByteArray := ⟨(Lib.itoa n).toArray⟩
theorem itoaS_size (n : Int) (h0 : -9223372036854775808 ≤ n) (h1 : n ≤ 9223372036854775807) : (itoaS n).size ≤ 21 := by
  show (Lib.itoa n).toArray.size ≤ 21
  simpa using Lib.itoa_length_le n h0 h1
/-- strconv.Itoa. -/
theorem itoa_any (n : Int) (w : World) (h0 : -9223372036854775808 ≤ n) (h1 : n ≤ 9223372036854775807) (hp : PowOk w) :
    Calls Tryz.prog 65 #[.int .i64 n] w fun e w' => e = .returned (.string (itoaS n)) ∧ Below w.heap.size w w' :=
  (Tryz.strconv_Itoa n h0 h1 w hp.2).mono fun _ _ ⟨he, k, os, hw⟩ => ⟨he, by rw [hw]; exact Lib.below_grow _ _ (Nat.le_refl _) _ _⟩

theorem decDigits_piece (d : Nat) (h : d < 10) : (⟨#[48, 49, 50, 51, 52, 53, 54, 55, 56, 57]⟩ : ByteArray).extract d (d + 1) = ⟨(Lib.decDigits d).toArray⟩ := by
  have : ∀ d : Fin 10, (⟨#[48, 49, 50, 51, 52, 53, 54, 55, 56, 57]⟩ : ByteArray).extract d.1 (d.1 + 1) = ⟨#[UInt8.ofNat (48 + d.1)]⟩ := by decide +kernel
  rw [this ⟨d, h⟩, Lib.decDigits_one h]
def decS (n : Nat) : ByteArray := ⟨(Lib.decDigits n).toArray⟩
theorem decS_size (n : Nat) (h : n < 18446744073709551616) : (decS n).size ≤ 20 := by
  show (Lib.decDigits n).toArray.size ≤ 20
  have := Lib.nDigits_le20 n h
  simpa [Lib.decDigits_length] using this

set_option maxHeartbeats 1000000 in
theorem decimal_any (k : Nat) : ∀ (n : Nat) (w : World), n ≤ k → n < 1000000000 →
    Calls Tryz.prog 136 #[.int .i64 (n : Int)] w fun e w' => e = .returned (.string (decS n)) ∧ w = w' := by
  induction k with
  | zero =>
    intro n w hk hb
    obtain rfl : n = 0 := by omega
    go_enter Tryz.func136, Tryz.ntmps136
    go_wp2_with fail
    go_ret
    exact ⟨ret_str (decDigits_piece 0 (by omega)), rfl⟩
  | succ k ih =>
    intro n w hk hb
    by_cases hn : n < 10
    · have HP := Lib.hid (decDigits_piece n hn)
      go_enter Tryz.func136, Tryz.ntmps136
      go_wp2_with fail
      go_ret
      exact ⟨ret_str HP.out, rfl⟩
    · have H1 := Lib.hid (ih (n / 10) w (by omega) (by omega))
      have H2 := Lib.hid (ih (n % 10) w (by omega) (by omega))
      have s1 := decS_size (n / 10) (by omega)
      have s2 := decS_size (n % 10) (by omega)
      clear ih
      go_enter Tryz.func136, Tryz.ntmps136
      go_wp2_with fail
      refine H1.out.mono ?_
      rintro e w1 ⟨rfl, rfl⟩
      go_wp2_with fail
      refine H2.out.mono ?_
      rintro e w1 ⟨rfl, rfl⟩
      go_wp2_with fail
      go_ret
      refine ⟨ret_str ?_, rfl⟩
      show decS (n / 10) ++ decS (n % 10) = decS n
      unfold decS
      rw [Lib.decDigits_one (i := n % 10) (by omega)]
      conv => rhs; rw [Lib.decDigits, dif_neg hn]
      apply ByteArray.ext
      simp [ByteArray.data_append]

def macP (key : ByteArray) : ByteArray := itoaS key.size ++ ⟨#[58]⟩ ++ key
def macS (key s : ByteArray) : ByteArray := textS (macP key ++ textS (macP key ++ s))
theorem itoaS_nat (n : Nat) : itoaS n = decS n := by unfold itoaS decS; rw [Lib.itoa_nonneg]
theorem macP_size (key : ByteArray) (h : key.size ≤ 1000000) : (macP key).size ≤ 1000022 := by
  have := itoaS_size key.size (by omega) (by omega)
  have h1 : (⟨#[58]⟩ : ByteArray).size = 1 := rfl
  simp only [macP, ByteArray.size_append]
  omega

theorem macP_size2 (key s : ByteArray) (h : key.size ≤ 1000000) (hs : s.size ≤ 1000000) : (macP key ++ s).size ≤ 9223372036854775807 := by
  have := macP_size key h
  simp only [ByteArray.size_append]
  omega

set_option maxHeartbeats 1000000 in
theorem mac_any (key s : ByteArray) (w : World) (hd : DigOk w) (hp : PowOk w) (hk : key.size ≤ 1000000) (hs : s.size ≤ 1000000) :
    Calls Tryz.prog 25 #[.string key, .string s] w fun e w' => e = .returned (.string (macS key s)) ∧ Below w.heap.size w w' := by
  have h1 := itoaS_size key.size (by omega) (by omega)
  have HI := Lib.hid (itoa_any key.size w (by omega) (by omega) hp)
  have ht := textS_size (macP key ++ s)
  have HZ1 : Hid ((itoaS key.size ++ ⟨#[58]⟩ ++ key ++ s).size ≤ 9223372036854775807) := macP_size2 key s hk hs
  have HZ2 : Hid ((itoaS key.size ++ ⟨#[58]⟩ ++ key ++ textS (macP key ++ s)).size ≤ 9223372036854775807) := macP_size2 key _ hk (by omega)
  have ht' : (textS (itoaS key.size ++ ⟨#[58]⟩ ++ key ++ s)).size ≤ 16 := Nat.le_of_eq ht
  clear ht
  go_enter Tryz.func25, Tryz.ntmps25
  go_wp2_with fail
  refine HI.out.mono ?_
  rintro e w1 ⟨rfl, hb1⟩
  go_wp2_with fail
  refine (text_any _ _ (hd.below hb1) HZ1.out).mono ?_
  rintro e w2 ⟨rfl, hb2⟩
  go_wp2_with fail
  refine (text_any _ _ ((hd.below hb1).below hb2) HZ2.out).mono ?_
  rintro e w3 ⟨rfl, hb3⟩
  go_wp2_with fail
  go_ret
  exact ⟨rfl, bthen (bthen hb1 hb2) hb3⟩

set_option maxHeartbeats 1000000 in
theorem rmac_any (key s : ByteArray) (w : World) (hk : key.size ≤ 1000000) (hs : s.size ≤ 1000000) :
    Calls Tryz.prog 94 #[.string key, .string s] w fun e w' => e = .returned (.string (macS key s)) ∧ w = w' := by
  have h1 := decS_size key.size (by omega)
  have HI := Lib.hid (decimal_any key.size key.size w (by omega) (by omega))
  have ht := textS_size (macP key ++ s)
  have HE : Hid (macP key = decS key.size ++ ⟨#[58]⟩ ++ key) := by show _ = _; rw [macP, itoaS_nat]
  have HZ1 : Hid ((decS key.size ++ ⟨#[58]⟩ ++ key ++ s).size ≤ 9223372036854775807) := by show _ ≤ _; rw [← HE.out]; exact macP_size2 key s hk hs
  have HZ2 : Hid ((decS key.size ++ ⟨#[58]⟩ ++ key ++ textS (decS key.size ++ ⟨#[58]⟩ ++ key ++ s)).size ≤ 9223372036854775807) := by show _ ≤ _; rw [← HE.out]; exact macP_size2 key _ hk (by omega)
  have ht' : (textS (decS key.size ++ ⟨#[58]⟩ ++ key ++ s)).size ≤ 16 := by rw [← HE.out]; exact Nat.le_of_eq ht
  clear ht
  go_enter Tryz.func94, Tryz.ntmps94
  go_wp2_with fail
  refine HI.out.mono ?_
  rintro e w1 ⟨rfl, rfl⟩
  go_wp2_with fail
  refine (rtext_any _ _ HZ1.out).mono ?_
  rintro e w2 ⟨rfl, rfl⟩
  go_wp2_with fail
  refine (rtext_any _ _ HZ2.out).mono ?_
  rintro e w3 ⟨rfl, rfl⟩
  go_wp2_with fail
  go_ret
  exact ⟨ret_str (by rw [macS, HE.out]), rfl⟩
end Go.Proofs.YtiiioefjdebggaaGreatDoor

/- What the variables of strconv hold. -/
namespace Go.Proofs.YtiiioefjdebggaaGreatDoor
open Go.RowKit

/-- What the variables of strconv hold. -/
def ErrsOk (w : World) : Prop := (∃ t p, w.var? Tryz.prog "strconv.ErrSyntax" = some #[.iface t p]) ∧ (∃ t p, w.var? Tryz.prog "strconv.ErrRange" = some #[.iface t p]) ∧ 4 < w.heap.size ∧ 5 < w.heap.size
theorem ErrsOk.below {w w' : World} (h : ErrsOk w) (hb : Below w.heap.size w w') : ErrsOk w' := by
  obtain ⟨⟨t, p, h1⟩, ⟨t', p', h2⟩, l1, l2⟩ := h
  exact ⟨⟨t, p, var?_below hb (by kernel_rfl) l1 h1⟩, ⟨t', p', var?_below hb (by kernel_rfl) l2 h2⟩, Nat.lt_of_lt_of_le l1 hb.size, Nat.lt_of_lt_of_le l2 hb.size⟩
end Go.Proofs.YtiiioefjdebggaaGreatDoor

/- fold.Word: a word is 1 to 64 bytes, each a letter, a digit, or one of - _ . : -/

namespace Go.Proofs.YtiiioefjdebggaaGreatDoor
open Go.RowKit

/-- A letter or a digit. -/
def alnumC (c : UInt8) : Bool := decide ((97 ≤ c.toNat ∧ c.toNat ≤ 122) ∨ (65 ≤ c.toNat ∧ c.toNat ≤ 90) ∨ (48 ≤ c.toNat ∧ c.toNat ≤ 57))
/-- A byte of a word. -/
def wordC (c : UInt8) : Bool := alnumC c || decide (c.toNat = 45 ∨ c.toNat = 95 ∨ c.toNat = 46 ∨ c.toNat = 58)
def wordS (s : ByteArray) : Bool := decide (1 ≤ s.size ∧ s.size ≤ 64) && s.data.toList.all wordC
theorem alnumC_mk {c : UInt8} {b : Bool} (h : b = true ↔ ((97 ≤ c.toNat ∧ c.toNat ≤ 122) ∨ (65 ≤ c.toNat ∧ c.toNat ≤ 90) ∨ (48 ≤ c.toNat ∧ c.toNat ≤ 57))) : b = alnumC c := by
  rw [Bool.eq_iff_iff, h, alnumC, decide_eq_true_iff]
theorem wordC_mk {c : UInt8} {b : Bool} (h : b = true ↔ (((97 ≤ c.toNat ∧ c.toNat ≤ 122) ∨ (65 ≤ c.toNat ∧ c.toNat ≤ 90) ∨ (48 ≤ c.toNat ∧ c.toNat ≤ 57)) ∨ (c.toNat = 45 ∨ c.toNat = 95 ∨ c.toNat = 46 ∨ c.toNat = 58))) : b = wordC c := by
  rw [Bool.eq_iff_iff, h, wordC, alnumC, Bool.or_eq_true, decide_eq_true_iff, decide_eq_true_iff]

set_option maxHeartbeats 1000000 in
theorem wordByte_any (c : UInt8) (w : World) :
    Calls Tryz.prog 106 #[.int .u8 (c.toNat : Int)] w fun e w' => e = .returned (.bool (wordC c)) ∧ w = w' := by
  have hcs : (97 ≤ c.toNat ∧ c.toNat ≤ 122) ∨ (65 ≤ c.toNat ∧ c.toNat ≤ 90) ∨ (48 ≤ c.toNat ∧ c.toNat ≤ 57) ∨ c.toNat = 45 ∨ c.toNat = 95 ∨ c.toNat = 46 ∨ c.toNat = 58 ∨ (c.toNat < 45) ∨ c.toNat = 47 ∨ (58 < c.toNat ∧ c.toNat < 65) ∨ (90 < c.toNat ∧ c.toNat < 95) ∨ c.toNat = 96 ∨ 122 < c.toNat := by omega
  go_enter Tryz.func106, Tryz.ntmps106
  generalize hn : c.toNat = n at *
  have HN := Lib.hid hn
  clear hn
  rcases hcs with ⟨h1, h2⟩ | ⟨h1, h2⟩ | ⟨h1, h2⟩ | rfl | rfl | rfl | rfl | h | rfl | ⟨h1, h2⟩ | ⟨h1, h2⟩ | rfl | h
  all_goals
    go_wp2
    go_ret
    exact ⟨ret_bool (wordC_mk (by rw [HN.out]; simp; try omega)), rfl⟩

theorem take_all {s : ByteArray} {k : Nat} {p : UInt8 → Bool} (h : k < s.size) (ha : (s.data.toList.take k).all p = true) (hc : p s[k] = true) : (s.data.toList.take (k + 1)).all p = true := by
  rw [take_snoc s k h, List.all_append, ha]; simp [hc]
theorem all_bad {s : ByteArray} {k : Nat} {p : UInt8 → Bool} (h : k < s.size) (hc : p s[k] = false) : s.data.toList.all p = false := by
  rw [List.all_eq_false]
  exact ⟨s[k], by rw [← Array.mem_def]; exact Array.getElem_mem _, by simp [hc]⟩
theorem all_done {s : ByteArray} {k : Nat} {p : UInt8 → Bool} (h : ¬ k < s.size) (ha : (s.data.toList.take k).all p = true) : s.data.toList.all p = true := by
  rwa [List.take_of_length_le (by simp; have : s.size = s.data.size := rfl; omega)] at ha
set_option maxHeartbeats 1000000 in
theorem made_word (s : ByteArray) (w : World) (hs : s.size ≤ 9223372036854775807) :
    Calls Tryz.prog 105 #[.string s, .func (.func 106) #[] #[]] w fun e w' => e = .returned (.bool (wordS s)) ∧ w = w' := by
  go_enter Tryz.func105, Tryz.ntmps105
  go_wp2_with fail
  go_loop [5, 8] (fun _ j => ∃ k : Nat, k ≤ s.size ∧ j = .int .i64 k ∧ Hid ((s.data.toList.take k).all wordC = true)) (fun _ i => s.size - (intOf i).toNat)
  case atStart => exact ⟨0, Nat.zero_le _, rfl, Lib.hid (by simp)⟩
  case round =>
    obtain ⟨k, hk, rfl, HA⟩ := hrel
    by_cases hlt : k < s.size
    · go_wp2_with fail
      cases hc : wordC s[k] with
      | false =>
        have HC := Lib.hid hc
        refine (wordByte_any s[k] w).mono ?_
        rintro e w1 ⟨rfl, rfl⟩
        rw [hc]
        clear hc
        go_wp2_with fail
        go_ret
        exact ⟨ret_bool (by rw [wordS, all_bad hlt HC.out, Bool.and_false]), rfl⟩
      | true =>
        have HC := Lib.hid hc
        refine (wordByte_any s[k] w).mono ?_
        rintro e w1 ⟨rfl, rfl⟩
        rw [hc]
        clear hc
        go_wp2_with fail
        go_round
        case rel => exact ⟨k + 1, by omega, by go_num, Lib.hid (take_all hlt HA.out HC.out)⟩
        case measure => simp [intOf]; omega
    · have HD := Lib.hid (all_done hlt HA.out)
      by_cases h0 : s.size = 0
      · have he : s.toList = [] := by rw [Lib.toList_data]; exact List.eq_nil_of_length_eq_zero (by simpa using h0)
        have hb : (s.toList.isEmpty) = true := by rw [he]; rfl
        have H0 := Lib.hid h0
        clear h0 he
        go_wp2_with fail
        go_ret
        exact ⟨ret_bool (by rw [wordS, H0.out]; simp), rfl⟩
      · have hb : (s.toList.isEmpty) = false := by
          rw [Lib.toList_data]
          cases hl : s.data.toList with
          | nil => exact absurd (by have := congrArg List.length hl; simpa using this) h0
          | cons a l => rfl
        have h1 : 1 ≤ s.size := by omega
        clear h0
        by_cases h64 : s.size ≤ 64
        · go_wp2_with fail
          go_ret
          exact ⟨ret_bool (by rw [wordS, HD.out]; simp [h1, h64]; omega), rfl⟩
        · go_wp2_with fail
          go_ret
          exact ⟨ret_bool (by rw [wordS, HD.out]; simp [h64]; omega), rfl⟩
/-- fold.Word. -/
theorem word_any (s : ByteArray) (w : World) (hs : s.size ≤ 9223372036854775807) :
    Calls Tryz.prog 60 #[.string s] w fun e w' => e = .returned (.bool (wordS s)) ∧ w = w' := by
  go_enter Tryz.func60, Tryz.ntmps60
  go_wp2_with fail
  refine (made_word s w hs).mono ?_
  rintro e w1 ⟨rfl, rfl⟩
  go_wp2_with fail
  go_ret
  exact ⟨rfl, rfl⟩
end Go.Proofs.YtiiioefjdebggaaGreatDoor

/- fold.Clean and its reference: values of printable ASCII without spaces at the ends. -/
namespace Go.Proofs.YtiiioefjdebggaaGreatDoor
open Go.RowKit

def printC (c : UInt8) : Bool := decide (32 ≤ c.toNat ∧ c.toNat ≤ 126)
def cleanS (s : ByteArray) : Bool := decide (1 ≤ s.size ∧ s.size ≤ 256) && s.data.toList.all printC && decide (s.data.toList.head? ≠ some 32) && decide (s.data.toList.getLast? ≠ some 32)
theorem drop_same (l : List UInt8) (c : UInt8) : l.dropWhile (· == c) = l ↔ l.head? ≠ some c := by
  cases l with
  | nil => simp
  | cons x t =>
    by_cases h : x = c
    · subst h
      rw [List.dropWhile_cons_of_pos (by simp)]
      constructor
      · intro h2
        have := congrArg List.length h2
        have h3 := (List.dropWhile_suffix (l := t) (fun y => y == x)).length_le
        simp at this
        omega
      · intro h2; simp at h2
    · rw [List.dropWhile_cons_of_neg (by simpa using h)]
      simp [h]
theorem trim_same (l : List UInt8) (c : UInt8) : Lib.trimB l c = l ↔ l.head? ≠ some c ∧ l.getLast? ≠ some c := by
  have hr : ∀ l : List UInt8, Lib.trimRightB l c = l ↔ l.getLast? ≠ some c := fun l => by
    rw [Lib.trimRightB, ← List.head?_reverse, ← drop_same, List.reverse_eq_iff]
  constructor
  · intro h
    have h1 : (Lib.trimRightB l c).length ≤ l.length := by
      have := (List.dropWhile_suffix (l := l.reverse) (fun y => y == c)).length_le
      rw [Lib.trimRightB, List.length_reverse]; simpa using this
    have h2 : l.length ≤ (Lib.trimRightB l c).length := by
      have := (List.dropWhile_suffix (l := Lib.trimRightB l c) (fun y => y == c)).length_le
      rw [← Lib.trimLeftB, show Lib.trimLeftB (Lib.trimRightB l c) c = l from h] at this
      exact this
    have h3 : Lib.trimRightB l c = l := by
      have hs := List.dropWhile_suffix (l := l.reverse) (fun y => y == c)
      have hlen : (l.reverse.dropWhile (fun y => y == c)).length = l.reverse.length := by
        have e : (Lib.trimRightB l c).length = (l.reverse.dropWhile (fun y => y == c)).length := by rw [Lib.trimRightB, List.length_reverse]
        rw [← e, List.length_reverse]; omega
      rw [Lib.trimRightB, hs.eq_of_length hlen, List.reverse_reverse]
    refine ⟨?_, (hr l).1 h3⟩
    rw [Lib.trimB, h3, Lib.trimLeftB, drop_same] at h
    exact h
  · rintro ⟨h1, h2⟩
    rw [Lib.trimB, (hr l).2 h2, Lib.trimLeftB]
    exact (drop_same l c).2 h1
theorem trim_eq (s : ByteArray) : ((⟨(Lib.trimB s.data.toList 32).toArray⟩ : ByteArray) = s) ↔ (s.data.toList.head? ≠ some 32 ∧ s.data.toList.getLast? ≠ some 32) := by
  rw [← trim_same]
  constructor
  · intro h
    have := congrArg (fun b : ByteArray => b.data.toList) h
    simpa using this
  · intro h
    apply ByteArray.ext; apply Array.toList_inj.1
    simpa using h
theorem ftrim_any (s : ByteArray) (w : World) (hs : s.size ≤ 9223372036854775807) :
    Calls Tryz.prog 123 #[.string s] w fun e w' => e = .returned (.string ⟨(Lib.trimB s.data.toList 32).toArray⟩) ∧ Below w.heap.size w w' := by
  go_enter Tryz.func123, Tryz.ntmps123
  go_wp2_with fail
  refine (Tryz.strings_Trim_one s 32 (by decide) _ hs).mono ?_
  rintro e w1 ⟨rfl, hw⟩
  have HB : Hid (Below w.heap.size w w1) := Lib.hid (by
    rcases hw with rfl | rfl
    · exact Below.refl _ _
    · exact (Below.refl _ _).drew)
  clear hw
  go_wp2_with fail
  go_ret
  exact ⟨rfl, HB.out⟩
theorem clean_bad {s : ByteArray} {k : Nat} (h : k < s.size) (hp : printC s[k] = false) : cleanS s = false := by
  have : s.data.toList.all printC = false := by
    rw [Bool.eq_false_iff]
    intro ha
    rw [List.all_eq_true] at ha
    have := ha s[k] (List.mem_of_getElem? (i := k) (by simp [ByteArray.getElem_eq_getElem_data] ))
    rw [hp] at this; cases this
  rw [cleanS, this]; simp
theorem print_step {s : ByteArray} {k : Nat} (h : k < s.size) (ha : (s.data.toList.take k).all printC = true) (hp : printC s[k] = true) : (s.data.toList.take (k + 1)).all printC = true := by
  have hk : k < s.data.toList.length := by simpa using h
  rw [List.take_succ_eq_append_getElem hk, List.all_append, ha]
  have : s.data.toList[k] = s[k] := by simp [ByteArray.getElem_eq_getElem_data]
  rw [this]; simp [hp]
theorem clean_end {s : ByteArray} (ha : s.data.toList.all printC = true) : cleanS s = (decide (1 ≤ s.size ∧ s.size ≤ 256) && decide (s.data.toList.head? ≠ some 32 ∧ s.data.toList.getLast? ≠ some 32)) := by
  rw [cleanS, ha, Bool.and_true, Bool.and_assoc]
  congr 1
  rw [Bool.eq_iff_iff]; simp
theorem ret_b {b c : Bool} (h : b = c) : Ending.returned (.bool b) = .returned (.bool c) := by rw [h]
set_option maxHeartbeats 4000000 in
set_option maxRecDepth 100000 in
theorem clean_any (s : ByteArray) (w : World) (hs : s.size ≤ 9223372036854775807) :
    Calls Tryz.prog 78 #[.string s] w fun e w' => e = .returned (.bool (cleanS s)) ∧ Below w.heap.size w w' := by
  have HCB := Lib.hid (fun k h hp => @clean_bad s k h hp)
  have HCE := Lib.hid (@clean_end s)
  have HTE := Lib.hid (trim_eq s)
  obtain ⟨V, HV⟩ : ∃ V, Hid (cleanS s = V) := ⟨_, Lib.hid rfl⟩
  rw [HV.out] at HCB HCE
  rw [HV.out]
  obtain ⟨T, HT⟩ : ∃ T, Hid ((⟨(Lib.trimB s.data.toList 32).toArray⟩ : ByteArray) = T) := ⟨_, Lib.hid rfl⟩
  rw [HT.out] at HTE
  go_enter Tryz.func78, Tryz.ntmps78
  go_wp2_with fail
  go_loopw [4] (fun _ wr => ∃ pos : Nat, wr = w.iter s pos ∧ Hid ((s.data.toList.take pos).all printC = true) ∧ pos ≤ s.size) (fun _ wr => s.size - wr.iterPos w.heap.size)
  case atStart => exact ⟨0, rfl, Lib.hid (by simp), by omega⟩
  case round =>
    obtain ⟨pos, rfl, HD, hpos⟩ := hrel
    by_cases hlt : pos < s.size
    · obtain ⟨c, hc⟩ : ∃ c, s[pos].toNat = c := ⟨_, rfl⟩
      have HC := Lib.hid hc
      by_cases ha : c < 128
      · have hnx : ∀ ty, (Instr.next (.pointer (some ⟨w.heap.size, 0, none⟩)) true ty).run Tryz.prog (w.iter s pos) = .ok (.tuple #[.bool true, .int .i64 pos, .int .i32 c]) (w.iter s (pos + 1)) := fun ty => by
          have := run_next_ascii (P := Tryz.prog) w s pos ty hlt (by omega)
          rwa [hc] at this
        have hcs : c < 32 ∨ 126 < c ∨ (32 ≤ c ∧ c ≤ 126) := by omega
        clear hc
        rcases hcs with h1 | h1 | ⟨h1, h2⟩
        · have hG := Lib.hid (HCB.out pos hlt (by rw [printC, HC.out]; simp; omega))
          go_wp2_with fail
          go_ret
          exact ⟨ret_b hG.out.symm, (Below.refl _ _).alloc (Nat.le_refl _) _⟩
        · have hG := Lib.hid (HCB.out pos hlt (by rw [printC, HC.out]; simp; omega))
          go_wp2_with fail
          go_ret
          exact ⟨ret_b hG.out.symm, (Below.refl _ _).alloc (Nat.le_refl _) _⟩
        · have HD1 : Hid ((s.data.toList.take (pos + 1)).all printC = true) := Lib.hid (print_step hlt HD.out (by rw [printC, HC.out]; simp; omega))
          go_wp2_with fail
          go_roundw
          case rel => exact ⟨pos + 1, rfl, HD1, by omega⟩
          case measure => simp; omega
      · have hdec := (decode_high s pos hlt (by omega)).1
        have hG := Lib.hid (HCB.out pos hlt (by rw [printC, HC.out]; simp; omega))
        obtain ⟨r, hr⟩ : ∃ r, (Utf8.decode s pos).1 = r := ⟨_, rfl⟩
        obtain ⟨q, hq⟩ : ∃ q, pos + (Utf8.decode s pos).2 = q := ⟨_, rfl⟩
        have hnx : ∀ ty, (Instr.next (.pointer (some ⟨w.heap.size, 0, none⟩)) true ty).run Tryz.prog (w.iter s pos) = .ok (.tuple #[.bool true, .int .i64 pos, .int .i32 r]) (w.iter s q) := fun ty => by
          have := run_next_any (P := Tryz.prog) w s pos ty hlt
          rwa [hr, hq] at this
        rw [hr] at hdec
        clear hc hr hq
        go_wp2_with fail
        go_ret
        exact ⟨ret_b hG.out.symm, (Below.refl _ _).alloc (Nat.le_refl _) _⟩
    · have hnx : ∀ ty, (Instr.next (.pointer (some ⟨w.heap.size, 0, none⟩)) true ty).run Tryz.prog (w.iter s pos) = .ok (.tuple #[.bool false]) (w.iter s pos) := fun ty => run_next_end w s pos ty hlt
      have HT1 := Lib.hid (HCE.out (by have h := HD.out; rwa [List.take_of_length_le (by simp; have : s.size = s.data.size := rfl; omega)] at h))
      have HBw : Hid (Below w.heap.size w (w.iter s pos)) := Lib.hid ((Below.refl _ _).alloc (Nat.le_refl _) _)
      by_cases h0 : s.size = 0
      · have e1 : s.toList.isEmpty = true := by
          rw [Lib.toList_data, List.isEmpty_iff]
          exact List.eq_nil_of_length_eq_zero (by simpa using h0)
        have hG : Hid (V = false) := Lib.hid (by rw [HT1.out, decide_eq_false (by omega)]; rfl)
        clear h0 hlt hpos hs
        go_wp2_with fail
        go_ret
        exact ⟨ret_b hG.out.symm, HBw.out⟩
      · have e1 : s.toList.isEmpty = false := by
          rw [Lib.toList_data]
          cases hd : s.data.toList with
          | nil => exact absurd (by simpa using congrArg List.length hd) h0
          | cons a l => rfl
        by_cases h256 : 256 < s.size
        · have hG : Hid (V = false) := Lib.hid (by rw [HT1.out, decide_eq_false (by omega)]; rfl)
          go_wp2_with fail
          go_ret
          exact ⟨ret_b hG.out.symm, HBw.out⟩
        · have hin : Hid (V = decide (s.data.toList.head? ≠ some 32 ∧ s.data.toList.getLast? ≠ some 32)) := Lib.hid (by rw [HT1.out, decide_eq_true (by omega)]; rfl)
          go_wp2_with fail
          refine (ftrim_any s _ hs).mono ?_
          rintro e w2 ⟨rfl, hb2⟩
          rw [HT.out]
          by_cases hts : T = s
          · have hG : Hid (V = true) := Lib.hid (by rw [hin.out]; exact decide_eq_true (HTE.out.1 hts))
            clear HT
            subst hts
            go_wp2_with fail
            go_ret
            exact ⟨ret_b (by rw [hG.out]), bthen HBw.out hb2⟩
          · have hG : Hid (V = false) := Lib.hid (by rw [hin.out]; exact decide_eq_false (fun h => hts (HTE.out.2 h)))
            have e2 := str_ne hts
            go_wp2_with fail
            go_ret
            exact ⟨ret_b (by rw [hG.out, ← e2]), bthen HBw.out hb2⟩
end Go.Proofs.YtiiioefjdebggaaGreatDoor

/- The reference's Clean. -/
namespace Go.Proofs.YtiiioefjdebggaaGreatDoor
open Go.RowKit

theorem head_at {s : ByteArray} (h : 0 < s.size) : s.data.toList.head? = some s[0] := by
  cases hd : s.data.toList with
  | nil =>
    have h0 : s.data.toList.length = 0 := by rw [hd]; rfl
    have e : s.data.toList.length = s.size := by simp
    omega
  | cons a l =>
    have e : s.data.toList[0]? = some a := by rw [hd]; rfl
    have e2 : s.data.toList[0]? = some s[0] := by
      rw [List.getElem?_eq_getElem (by simpa using h)]; simp [ByteArray.getElem_eq_getElem_data]
    rw [List.head?_cons, ← e, e2]
theorem last_at {s : ByteArray} (h : 0 < s.size) : s.data.toList.getLast? = some (s[s.size - 1]'(by omega)) := by
  rw [List.getLast?_eq_getElem?]
  have hl : s.data.toList.length = s.size := by simp
  rw [hl, List.getElem?_eq_getElem (by omega)]
  simp [ByteArray.getElem_eq_getElem_data]
theorem clean_size {s : ByteArray} (h : ¬ (1 ≤ s.size ∧ s.size ≤ 256)) : cleanS s = false := by
  rw [cleanS, decide_eq_false h]; simp
theorem clean_head {s : ByteArray} (h : 0 < s.size) (hc : s[0].toNat = 32) : cleanS s = false := by
  rw [cleanS, head_at h, show s[0] = 32 from UInt8.toNat_inj.1 hc]; simp
theorem clean_last {s : ByteArray} (h : 0 < s.size) (hc : (s[s.size - 1]'(by omega)).toNat = 32) : cleanS s = false := by
  rw [cleanS, last_at h, show s[s.size - 1]'(by omega) = 32 from UInt8.toNat_inj.1 hc]; simp
theorem clean_yes {s : ByteArray} (h : 0 < s.size) (h2 : s.size ≤ 256) (h3 : s[0].toNat ≠ 32) (h4 : (s[s.size - 1]'(by omega)).toNat ≠ 32) (ha : s.data.toList.all printC = true) : cleanS s = true := by
  rw [clean_end ha, decide_eq_true (by omega), Bool.true_and, head_at h, last_at h]
  refine decide_eq_true ⟨fun e => h3 ?_, fun e => h4 ?_⟩
  · rw [Option.some.inj e]; rfl
  · rw [Option.some.inj e]; rfl
set_option maxHeartbeats 4000000 in
set_option maxRecDepth 100000 in
theorem rclean_any (s : ByteArray) (w : World) (hs : s.size ≤ 9223372036854775807) :
    Calls Tryz.prog 85 #[.string s] w fun e w' => e = .returned (.bool (cleanS s)) ∧ w = w' := by
  have HCB := Lib.hid (fun k h hp => @clean_bad s k h hp)
  have HCZ := Lib.hid (@clean_size s)
  have HCH := Lib.hid (@clean_head s)
  have HCL := Lib.hid (@clean_last s)
  have HCY := Lib.hid (@clean_yes s)
  obtain ⟨V, HV⟩ : ∃ V, Hid (cleanS s = V) := ⟨_, Lib.hid rfl⟩
  rw [HV.out] at HCB HCZ HCH HCL HCY
  rw [HV.out]
  by_cases h1 : s.size < 1
  · have hG : Hid (V = false) := Lib.hid (HCZ.out (by omega))
    go_enter Tryz.func85, Tryz.ntmps85
    go_wp2_with fail
    go_ret
    exact ⟨ret_b hG.out.symm, rfl⟩
  · by_cases h2 : 256 < s.size
    · have hG : Hid (V = false) := Lib.hid (HCZ.out (by omega))
      go_enter Tryz.func85, Tryz.ntmps85
      go_wp2_with fail
      go_ret
      exact ⟨ret_b hG.out.symm, rfl⟩
    · have hp : 0 < s.size := by omega
      have h0' : (0 : Int) < (s.size : Int) := by omega
      obtain ⟨a, ha⟩ : ∃ a, s[0].toNat = a := ⟨_, rfl⟩
      obtain ⟨z, hz⟩ : ∃ z, (s[s.size - 1]'(by omega)).toNat = z := ⟨_, rfl⟩
      have HA := Lib.hid ha
      have HZ := Lib.hid hz
      have q1 : IntKind.i64.wrap ((s.size : Int) - 1) = (s.size : Int) - 1 := IntWalk.i64_in _ (by omega)
      have q2 : ((s.size : Int) - 1).toNat = s.size - 1 := by omega
      have q3 : (0 : Int) ≤ (s.size : Int) - 1 := by omega
      have q4 : (1 : Int) ≤ (s.size : Int) := by omega
      have q5 : (s.size : Int) - 1 < (s.size : Int) := by omega
      by_cases ha32 : a = 32
      · subst ha32
        have hG : Hid (V = false) := Lib.hid (HCH.out hp HA.out)
        go_enter Tryz.func85, Tryz.ntmps85
        go_wp2_with fail
        go_ret
        exact ⟨ret_b hG.out.symm, rfl⟩
      · have e1 : ((a : Int) == 32) = false := by rw [beq_eq_false_iff_ne]; omega
        by_cases hz32 : z = 32
        · subst hz32
          have hG : Hid (V = false) := Lib.hid (HCL.out hp HZ.out)
          go_enter Tryz.func85, Tryz.ntmps85
          go_wp2_with fail
          go_ret
          exact ⟨ret_b hG.out.symm, rfl⟩
        · have e2 : ((z : Int) == 32) = false := by rw [beq_eq_false_iff_ne]; omega
          have HY := Lib.hid (fun ha => HCY.out hp (by omega) (by rw [HA.out]; exact ha32) (by rw [HZ.out]; exact hz32) ha)
          go_enter Tryz.func85, Tryz.ntmps85
          go_wp2_with fail
          clear q1 q2 q3 q4 q5 e1 e2 ha hz
          go_loop [3] (fun i => ∃ k : Nat, k ≤ s.size ∧ i = .int .i64 k ∧ Hid ((s.data.toList.take k).all printC = true)) (fun i => s.size - (intOf i).toNat)
          case atStart => exact ⟨0, Nat.zero_le _, rfl, Lib.hid (by simp)⟩
          case round =>
            obtain ⟨k, hk, rfl, HD⟩ := hrel
            by_cases hlt : k < s.size
            · obtain ⟨c, hc⟩ : ∃ c, s[k].toNat = c := ⟨_, rfl⟩
              have HC := Lib.hid hc
              have hcs : c < 32 ∨ 126 < c ∨ (32 ≤ c ∧ c ≤ 126) := by omega
              rcases hcs with g1 | g1 | ⟨g1, g2⟩
              · have hG := Lib.hid (HCB.out k hlt (by rw [printC, HC.out]; simp; omega))
                go_wp2_with fail
                go_ret
                exact ⟨ret_b hG.out.symm, rfl⟩
              · have hG := Lib.hid (HCB.out k hlt (by rw [printC, HC.out]; simp; omega))
                go_wp2_with fail
                go_ret
                exact ⟨ret_b hG.out.symm, rfl⟩
              · have HD1 : Hid ((s.data.toList.take (k + 1)).all printC = true) := Lib.hid (print_step hlt HD.out (by rw [printC, HC.out]; simp; omega))
                go_wp2_with fail
                go_round
                case rel => exact ⟨k + 1, hlt, by go_num, HD1⟩
                case measure => simp [intOf]; omega
            · have hG := Lib.hid (HY.out (by have h := HD.out; rwa [List.take_of_length_le (by simp; have : s.size = s.data.size := rfl; omega)] at h))
              go_wp2_with fail
              go_ret
              exact ⟨ret_b hG.out.symm, rfl⟩
end Go.Proofs.YtiiioefjdebggaaGreatDoor

/- Instants: clock.Valid and its reference. -/
namespace Go.Proofs.YtiiioefjdebggaaGreatDoor
open Go.RowKit

def validT (t : Int) : Bool := decide (0 ≤ t ∧ t ≤ 1099511627776)
/-- The nearest instant. -/
def limT (t : Int) : Int := min (max t 0) 1099511627776
theorem climited_any (t : Int) (w : World) :
    Calls Tryz.prog 111 #[.int .i64 t] w fun e w' => e = .returned (.int .i64 (limT t)) ∧ w = w' := by
  go_enter Tryz.func111, Tryz.ntmps111
  go_wp2_with fail
  all_goals
    go_ret
    exact ⟨ret_int (by unfold limT; omega), rfl⟩
theorem cvalid_any (t : Int) (w : World) :
    Calls Tryz.prog 81 #[.int .i64 t] w fun e w' => e = .returned (.bool (validT t)) ∧ w = w' := by
  have HV : Hid ((t == limT t) = validT t) := Lib.hid (by
    unfold limT validT
    by_cases h : 0 ≤ t ∧ t ≤ 1099511627776
    · rw [decide_eq_true h, beq_iff_eq]; omega
    · rw [decide_eq_false h, beq_eq_false_iff_ne]; omega)
  obtain ⟨m, HM⟩ : ∃ m, Hid (limT t = m) := ⟨_, Lib.hid rfl⟩
  rw [HM.out] at HV
  go_enter Tryz.func81, Tryz.ntmps81
  go_wp2_with fail
  refine (climited_any t w).mono ?_
  rintro e w1 ⟨rfl, rfl⟩
  rw [HM.out]
  go_wp2_with fail
  go_ret
  exact ⟨ret_bool HV.out, rfl⟩
theorem rvalidT_any (t : Int) (w : World) :
    Calls Tryz.prog 91 #[.int .i64 t] w fun e w' => e = .returned (.bool (validT t)) ∧ w = w' := by
  by_cases h0 : 0 ≤ t
  · have HV : Hid (decide (t ≤ 1099511627776) = validT t) := Lib.hid (by
      unfold validT; exact decide_eq_decide.2 ⟨fun h => ⟨h0, h⟩, fun h => h.2⟩)
    go_enter Tryz.func91, Tryz.ntmps91
    go_wp2_with fail
    go_ret
    exact ⟨ret_bool HV.out, rfl⟩
  · have HV : Hid (false = validT t) := Lib.hid (by unfold validT; exact (decide_eq_false (fun h => h0 h.1)).symm)
    go_enter Tryz.func91, Tryz.ntmps91
    go_wp2_with fail
    go_ret
    exact ⟨ret_bool HV.out, rfl⟩
end Go.Proofs.YtiiioefjdebggaaGreatDoor

/- A slice that reads as a list of strings. -/
namespace Go.Proofs.YtiiioefjdebggaaGreatDoor
open Go.RowKit

/-- A slice's address reads as a list of strings. -/
def Strs (w : World) (A : Option Addr) (l : List ByteArray) : Prop :=
  ∀ i, (h : i < l.length) → ∃ b o, A = some ⟨b, o, none⟩ ∧ w.cell? ⟨b, o + i, none⟩ = some (.string l[i])
theorem Strs.below {w w' : World} {A : Option Addr} {l : List ByteArray} (h : Strs w A l) (hb : Below w.heap.size w w') : Strs w' A l := by
  intro i hi
  obtain ⟨b, o, e, hc⟩ := h i hi
  exact ⟨b, o, e, (hb.cell (World.block_lt_of_cell? w _ hc)).trans hc⟩
theorem Strs.nil_ (w : World) (A : Option Addr) : Strs w A [] := fun i h => absurd h (by simp)
/-- What a function that hands back a list of strings says. -/
def RetStrs (B : Nat) (w' : World) (e : Ending) (l : List ByteArray) : Prop := ∃ A cap, e = .returned (.slice A l.length cap) ∧ Strs w' A l ∧ ∀ p, A = some p → B ≤ p.block
theorem Strs.own {w : World} {base e g n cap : Nat} {xs : List Value} {l : List ByteArray} (h : w.ownsRow base e 1 (.slice (some ⟨g, 0, none⟩) n cap) n xs) (hn : n = l.length)
    (hx : ∀ j, (h : j < l.length) → xs[j]? = some (.string l[j])) : Strs w (some ⟨g, 0, none⟩) l := by
  intro i hi
  refine ⟨g, 0, rfl, ?_⟩
  rw [Nat.zero_add, h.cellAt i (by omega), hx i hi]

theorem RetStrs.own {w : World} {base e n : Nat} {v : Value} {xs : List Value} {l : List ByteArray} (h : w.ownsRow base e 1 v n xs) (hn : l.length = n)
    (hx : ∀ j, (h : j < l.length) → xs[j]? = some (.string l[j])) : RetStrs base w (.returned v) l := by
  rcases h.2 with ⟨rfl, rfl⟩ | ⟨g, cap, cur, rfl, hg, _⟩
  · have : l = [] := List.eq_nil_of_length_eq_zero hn
    subst this
    exact ⟨none, 0, rfl, Strs.nil_ _ _, fun p h => by cases h⟩
  · subst hn
    exact ⟨_, cap, rfl, Strs.own h rfl hx, fun p h => by cases h; exact hg⟩
theorem Strs.drew {w : World} {A : Option Addr} {l : List ByteArray} (h : Strs w A l) : Strs w.drew A l := h
theorem strs_take {w : World} {A : Option Addr} {l : List ByteArray} (h : Strs w A l) (k : Nat) : Strs w A (l.take k) := by
  intro i hi
  obtain ⟨b, o, e, hc⟩ := h i (by simp at hi; omega)
  exact ⟨b, o, e, by simpa using hc⟩
/-- The first k cells of a row hold the first k strings of a list. -/
def Done (xs : List Value) (l : List ByteArray) (k : Nat) : Prop := ∀ j, (h : j < l.length) → j < k → xs[j]? = some (.string l[j])
theorem Done.zero (xs : List Value) (l : List ByteArray) : Done xs l 0 := fun j _ h => absurd h (by omega)
theorem Done.set {xs : List Value} {l : List ByteArray} {k : Nat} (h : Done xs l k) (hx : k < xs.length) {v : Value} (hv : ∀ hl : k < l.length, v = .string l[k]) : Done (xs.set k v) l (k + 1) := by
  intro j hj hjk
  by_cases e : j = k
  · subst e
    rw [List.getElem?_set_self hx, hv hj]
  · rw [List.getElem?_set_ne (Ne.symm e)]
    exact h j hj (by omega)
theorem Tryz.info_s : (Tryz.prog.info? 9).map (fun i => (i.zero, i.size, i.bytes)) = some (some (.string ByteArray.empty), 1, 16) := by kernel_rfl
/-- A string as a value. -/
def strV (s : ByteArray) : Value := .string s
/-- The cells of a list of strings. -/
def strVs (l : List ByteArray) : List Value := l.map strV
theorem strVs_snoc (l : List ByteArray) (s : ByteArray) : strVs l ++ [strV s] = strVs (l ++ [s]) := by simp [strVs]
theorem strVs_at (l : List ByteArray) : ∀ j, (h : j < l.length) → (strVs l)[j]? = some (.string l[j]) := by
  intro j h
  simp [strVs, strV, h]
/-- What a function that hands back a list of strings and a code says. -/
def RetStrs2 (B : Nat) (w' : World) (e : Ending) (l : List ByteArray) (c : Int) : Prop := ∃ A cap, e = .returned (.tuple #[.slice A l.length cap, .int .i64 c]) ∧ Strs w' A l ∧ (∀ p, A = some p → B ≤ p.block) ∧ l.length ≤ cap
theorem RetStrs2.own {w : World} {base e n : Nat} {v : Value} {xs : List Value} {l : List ByteArray} {c : Int} (h : w.ownsRow base e 1 v n xs) (hn : l.length = n)
    (hx : ∀ j, (h : j < l.length) → xs[j]? = some (.string l[j])) : RetStrs2 base w (.returned (.tuple #[v, .int .i64 c])) l c := by
  rcases h.2 with ⟨rfl, rfl⟩ | ⟨g, cap, cur, rfl, hg, _, hnc, _⟩
  · have : l = [] := List.eq_nil_of_length_eq_zero hn
    subst this
    exact ⟨none, 0, rfl, Strs.nil_ _ _, (fun p h => by cases h), Nat.le_refl _⟩
  · subst hn
    exact ⟨_, cap, rfl, Strs.own h rfl hx, (fun p h => by cases h; exact hg), hnc⟩
/-- An append leaves a list alone that does not lie in the row. -/
theorem Strs.far {w w' : World} {A : Option Addr} {l : List ByteArray} {row : Option Nat} (h : Strs w A l) (hg : w.grownBy w' row) (hr : ∀ p g, A = some p → row = some g → p.block ≠ g) : Strs w' A l := by
  intro i hi
  obtain ⟨b, o, e, hc⟩ := h i hi
  refine ⟨b, o, e, ?_⟩
  have hb := World.block_lt_of_cell? w _ hc
  rw [← hc]
  refine World.cell?_of_block (hg.block b hb ?_)
  intro h
  exact hr _ b e h.symm rfl
theorem Strs.alloc {w : World} {A : Option Addr} {l : List ByteArray} (h : Strs w A l) (o : Obj) : Strs (w.alloc o) A l :=
  h.below ((Below.refl _ _).alloc (Nat.le_refl _) o)
end Go.Proofs.YtiiioefjdebggaaGreatDoor

/- Claims: plain data and what Check says of them. -/
namespace Go.Proofs.YtiiioefjdebggaaGreatDoor
open Go.RowKit

/-- Claims. -/
structure Cl where
  kind : ByteArray
  issuer : ByteArray
  subject : ByteArray
  client : ByteArray
  tenant : ByteArray
  id : ByteArray
  session : ByteArray
  nonce : ByteArray
  aud : List ByteArray
  sco : List ByteArray
  act : List ByteArray
  issued : Int
  nb : Int
  exp : Int
  auth : Int
  level : Int
/-- Where the lists of claims lie. -/
structure P3 where
  a1 : Option Addr
  c1 : Nat
  a2 : Option Addr
  c2 : Nat
  a3 : Option Addr
  c3 : Nat
def optB (s : ByteArray) : Bool := decide (s.size = 0) || wordS s
def nameB (c : Cl) : Bool := wordS c.kind && wordS c.client && wordS c.tenant && wordS c.id && optB c.session && optB c.nonce && cleanS c.issuer && cleanS c.subject
/-- Is a string in a list? -/
def memB (l : List ByteArray) (s : ByteArray) : Bool := l.any fun x => decide (x = s)
theorem memB_iff (l : List ByteArray) (s : ByteArray) : memB l s = true ↔ s ∈ l := by
  rw [memB, List.any_eq_true]
  constructor
  · rintro ⟨x, hx, h⟩
    rw [decide_eq_true_iff] at h
    exact h ▸ hx
  · intro h
    exact ⟨s, h, decide_eq_true rfl⟩
/-- The audience: words, none twice. -/
def audF : List ByteArray → List ByteArray → Int
  | _, [] => 0
  | pre, s :: l => if wordS s = true then (if memB pre s = true then 7 else audF (pre ++ [s]) l) else 5
def audE (l : List ByteArray) : Int := if l.length = 0 then 6 else if 16 < l.length then 3 else audF [] l
/-- Is p in front of s? -/
def ordB (p s : ByteArray) : Bool := Op.bytesLess p.toList s.toList
def scoF : Option ByteArray → List ByteArray → Int
  | _, [] => 0
  | none, s :: l => if wordS s = true then scoF (some s) l else 5
  | some p, s :: l => if wordS s = true then (if ordB p s = true then scoF (some s) l else 4) else 5
def scoE (l : List ByteArray) : Int := if 16 < l.length then 3 else scoF none l
def actF : List ByteArray → Int
  | [] => 0
  | s :: l => if cleanS s = true then actF l else 5
def actE (l : List ByteArray) : Int := if 4 < l.length then 3 else actF l
def timeB (c : Cl) : Bool := validT c.issued && validT c.nb && validT c.exp && validT c.auth && decide (c.issued ≤ c.exp ∧ c.nb ≤ c.exp)
def listE (c : Cl) : Int := if audE c.aud = 0 then (if scoE c.sco = 0 then actE c.act else scoE c.sco) else audE c.aud
def checkE (c : Cl) : Int :=
  if nameB c = true then (if listE c = 0 then (if timeB c = true then (if 0 ≤ c.level ∧ c.level ≤ 3 then 0 else 27) else 2) else listE c) else 5
/-- The loop over the audience. -/
def AudAt (l : List ByteArray) (k : Nat) : Prop := audF [] l = audF (l.take k) (l.drop k)
theorem AudAt.zero (l : List ByteArray) : AudAt l 0 := rfl
theorem AudAt.word {l : List ByteArray} {k : Nat} (h : AudAt l k) (hk : k < l.length) (hw : wordS l[k] = false) : audF [] l = 5 := by
  rw [h, List.drop_eq_getElem_cons hk, audF, if_neg (by rw [hw]; decide)]
theorem AudAt.twice {l : List ByteArray} {k : Nat} (h : AudAt l k) (hk : k < l.length) (hw : wordS l[k] = true) (ht : memB (l.take k) l[k] = true) : audF [] l = 7 := by
  rw [h, List.drop_eq_getElem_cons hk, audF, if_pos hw, if_pos ht]
theorem AudAt.next {l : List ByteArray} {k : Nat} (h : AudAt l k) (hk : k < l.length) (hw : wordS l[k] = true) (ht : ¬ memB (l.take k) l[k] = true) : AudAt l (k + 1) := by
  rw [AudAt, h, List.drop_eq_getElem_cons hk, audF, if_pos hw, if_neg ht, List.take_succ_eq_append_getElem hk]
theorem AudAt.done {l : List ByteArray} (h : AudAt l l.length) : audF [] l = 0 := by rw [h, List.drop_length, audF]
/-- The scope before place k. -/
def prevO (l : List ByteArray) (k : Nat) : Option ByteArray := if k = 0 then none else l[k - 1]?
def ScoAt (l : List ByteArray) (k : Nat) : Prop := scoF none l = scoF (prevO l k) (l.drop k)
theorem ScoAt.zero (l : List ByteArray) : ScoAt l 0 := rfl
theorem prevO_succ {l : List ByteArray} {k : Nat} (hk : k < l.length) : prevO l (k + 1) = some l[k] := by
  rw [prevO, if_neg (by omega), Nat.add_sub_cancel, List.getElem?_eq_getElem hk]
theorem ScoAt.word {l : List ByteArray} {k : Nat} (h : ScoAt l k) (hk : k < l.length) (hw : wordS l[k] = false) : scoF none l = 5 := by
  have hn : ¬ wordS l[k] = true := by rw [hw]; decide
  rw [h, List.drop_eq_getElem_cons hk]
  cases prevO l k with
  | none => rw [scoF, if_neg hn]
  | some p => rw [scoF, if_neg hn]
theorem ScoAt.first {l : List ByteArray} (h : ScoAt l 0) (hk : 0 < l.length) (hw : wordS l[0] = true) : ScoAt l 1 := by
  rw [ScoAt, h, List.drop_eq_getElem_cons hk, show prevO l 0 = none from rfl, scoF, if_pos hw, prevO_succ hk]
theorem ScoAt.order {l : List ByteArray} {k : Nat} (h : ScoAt l (k + 1)) (hk : k + 1 < l.length) (hw : wordS l[k + 1] = true) (ho : ordB l[k] l[k + 1] = false) : scoF none l = 4 := by
  rw [h, List.drop_eq_getElem_cons hk, prevO_succ (by omega), scoF, if_pos hw, if_neg (by rw [ho]; decide)]
theorem ScoAt.next {l : List ByteArray} {k : Nat} (h : ScoAt l (k + 1)) (hk : k + 1 < l.length) (hw : wordS l[k + 1] = true) (ho : ordB l[k] l[k + 1] = true) : ScoAt l (k + 2) := by
  rw [ScoAt, h, List.drop_eq_getElem_cons hk, prevO_succ (by omega), scoF, if_pos hw, if_pos ho, prevO_succ hk]
theorem ScoAt.done {l : List ByteArray} (h : ScoAt l l.length) : scoF none l = 0 := by
  rw [h, List.drop_length]
  cases prevO l l.length <;> rw [scoF]
def ActAt (l : List ByteArray) (k : Nat) : Prop := actF l = actF (l.drop k)
theorem ActAt.zero (l : List ByteArray) : ActAt l 0 := rfl
theorem ActAt.bad {l : List ByteArray} {k : Nat} (h : ActAt l k) (hk : k < l.length) (hw : cleanS l[k] = false) : actF l = 5 := by
  rw [h, List.drop_eq_getElem_cons hk, actF, if_neg (by rw [hw]; decide)]
theorem ActAt.next {l : List ByteArray} {k : Nat} (h : ActAt l k) (hk : k < l.length) (hw : cleanS l[k] = true) : ActAt l (k + 1) := by
  rw [ActAt, h, List.drop_eq_getElem_cons hk, actF, if_pos hw]
theorem ActAt.done {l : List ByteArray} (h : ActAt l l.length) : actF l = 0 := by rw [h, List.drop_length, actF]
/-- Claims as a value and in a variable. -/
def clV (c : Cl) (p : P3) : Value := .agg #[.string c.kind, .string c.issuer, .string c.subject, .string c.client, .string c.tenant, .string c.id, .string c.session, .string c.nonce, .slice p.a1 c.aud.length p.c1, .slice p.a2 c.sco.length p.c2, .slice p.a3 c.act.length p.c3, .int .i64 c.issued, .int .i64 c.nb, .int .i64 c.exp, .int .i64 c.auth, .int .i64 c.level]
def clO (c : Cl) (p : P3) : Obj := .cells #[.string c.kind, .string c.issuer, .string c.subject, .string c.client, .string c.tenant, .string c.id, .string c.session, .string c.nonce, .slice p.a1 c.aud.length p.c1, .slice p.a2 c.sco.length p.c2, .slice p.a3 c.act.length p.c3, .int .i64 c.issued, .int .i64 c.nb, .int .i64 c.exp, .int .i64 c.auth, .int .i64 c.level] 25 (0, 0)
/-- The lists of claims lie in memory. -/
structure ClAt (w : World) (c : Cl) (p : P3) : Prop where
  aud : Strs w p.a1 c.aud
  sco : Strs w p.a2 c.sco
  act : Strs w p.a3 c.act
theorem ClAt.below {w w' : World} {c : Cl} {p : P3} (h : ClAt w c p) (hb : Below w.heap.size w w') : ClAt w' c p := ⟨h.aud.below hb, h.sco.below hb, h.act.below hb⟩
def ClBox (w : World) (b : Nat) (c : Cl) (p : P3) : Prop := w.heap[b]? = some (clO c p)
theorem ClBox.new (w : World) (c : Cl) (p : P3) : ClBox (w.alloc (clO c p)) w.heap.size c p := heap_alloc_new w _
theorem ClBox.below {w w' : World} {b : Nat} {c : Cl} {p : P3} (h : ClBox w b c p) (hb : Below w.heap.size w w') : ClBox w' b c p := (hb.block b (Array.getElem?_eq_some_iff.1 h).1).trans h
theorem ClBox.cells {w : World} {b : Nat} {c : Cl} {p : P3} (h : ClBox w b c p) :
    w.cell? ⟨b, 0, none⟩ = some (.string c.kind) ∧ w.cell? ⟨b, 1, none⟩ = some (.string c.issuer) ∧ w.cell? ⟨b, 2, none⟩ = some (.string c.subject) ∧ w.cell? ⟨b, 3, none⟩ = some (.string c.client) ∧ w.cell? ⟨b, 4, none⟩ = some (.string c.tenant) ∧ w.cell? ⟨b, 5, none⟩ = some (.string c.id) ∧ w.cell? ⟨b, 6, none⟩ = some (.string c.session) ∧ w.cell? ⟨b, 7, none⟩ = some (.string c.nonce) ∧
    w.cell? ⟨b, 8, none⟩ = some (.slice p.a1 c.aud.length p.c1) ∧ w.cell? ⟨b, 9, none⟩ = some (.slice p.a2 c.sco.length p.c2) ∧ w.cell? ⟨b, 10, none⟩ = some (.slice p.a3 c.act.length p.c3) ∧
    w.cell? ⟨b, 11, none⟩ = some (.int .i64 c.issued) ∧ w.cell? ⟨b, 12, none⟩ = some (.int .i64 c.nb) ∧ w.cell? ⟨b, 13, none⟩ = some (.int .i64 c.exp) ∧ w.cell? ⟨b, 14, none⟩ = some (.int .i64 c.auth) ∧ w.cell? ⟨b, 15, none⟩ = some (.int .i64 c.level) :=
  ⟨cell_of_row w b 0 _ _ (0, 0) h, cell_of_row w b 1 _ _ (0, 0) h, cell_of_row w b 2 _ _ (0, 0) h, cell_of_row w b 3 _ _ (0, 0) h, cell_of_row w b 4 _ _ (0, 0) h, cell_of_row w b 5 _ _ (0, 0) h, cell_of_row w b 6 _ _ (0, 0) h, cell_of_row w b 7 _ _ (0, 0) h, cell_of_row w b 8 _ _ (0, 0) h, cell_of_row w b 9 _ _ (0, 0) h, cell_of_row w b 10 _ _ (0, 0) h, cell_of_row w b 11 _ _ (0, 0) h, cell_of_row w b 12 _ _ (0, 0) h, cell_of_row w b 13 _ _ (0, 0) h, cell_of_row w b 14 _ _ (0, 0) h, cell_of_row w b 15 _ _ (0, 0) h⟩
/-- What the values of claims may be. -/
structure ClIn (c : Cl) (p : P3) : Prop where
  s0 : c.kind.size ≤ 9223372036854775807
  s1 : c.issuer.size ≤ 9223372036854775807
  s2 : c.subject.size ≤ 9223372036854775807
  s3 : c.client.size ≤ 9223372036854775807
  s4 : c.tenant.size ≤ 9223372036854775807
  s5 : c.id.size ≤ 9223372036854775807
  s6 : c.session.size ≤ 9223372036854775807
  s7 : c.nonce.size ≤ 9223372036854775807
  l1 : c.aud.length ≤ p.c1
  l2 : c.sco.length ≤ p.c2
  l3 : c.act.length ≤ p.c3
  m1 : c.aud.length ≤ 9223372036854775807
  m2 : c.sco.length ≤ 9223372036854775807
  m3 : c.act.length ≤ 9223372036854775807
  z1 : ∀ s ∈ c.aud, s.size ≤ 9223372036854775807
  z2 : ∀ s ∈ c.sco, s.size ≤ 9223372036854775807
  z3 : ∀ s ∈ c.act, s.size ≤ 9223372036854775807
  i0 : -9223372036854775808 ≤ c.issued ∧ c.issued ≤ 9223372036854775807
  i1 : -9223372036854775808 ≤ c.nb ∧ c.nb ≤ 9223372036854775807
  i2 : -9223372036854775808 ≤ c.exp ∧ c.exp ≤ 9223372036854775807
  i3 : -9223372036854775808 ≤ c.auth ∧ c.auth ≤ 9223372036854775807
  i4 : -9223372036854775808 ≤ c.level ∧ c.level ≤ 9223372036854775807
end Go.Proofs.YtiiioefjdebggaaGreatDoor

