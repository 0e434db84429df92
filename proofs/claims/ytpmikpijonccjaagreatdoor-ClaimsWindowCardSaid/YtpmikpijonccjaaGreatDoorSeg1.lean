/- Joined: LawKit, DigPlain, Kit, DigSum, DigHex, DigText, DigMac, Errs, FoldWord, FoldClean, RefClean, Clock, Strs, ClmPlain, ClmPtrs, CodEsc, CodList, CodStrs, ClmLines, Idx, CodSplitP. -/
import Derived.Test.YtpmikpijonccjaaGreatDoorProg
import Derived.WalkKit
import Derived.ProofKit
import Derived.OpenShut
import Derived.LaidMore
import Derived.MakeChecks
import Derived.Stop.LaidErr
import Derived.Deep.DeepHandedRow
import Derived.Deep.DeepWitnessRowRef
import Derived.Lib.LaidTab
import Derived.Laws.Bits64
import Derived.Lib.Hide
import Derived.Lib.Strings
import Derived.WalkSpells
import Derived.WalkLawsBesides
import Derived.Test.YtpmikpijonccjaaGreatDoorShelf
import Derived.Lib.AppendIntMem
import Derived.Lib.ItoaLen
import Derived.Lib.ItoaMem
import Derived.Laws.RangeAny
import Derived.Laws.OwnMore
import Derived.StillTailTactics
import Derived.Lib.Bytealg
import Derived.Lib.IndexBytes
/- What all laws of this seat share: a call that only makes memory leaves the arguments as they were. -/
namespace Go.Proofs.YtpmikpijonccjaaGreatDoor
open Go.ChangeShapes Go.WideShapes Go.ChangeAt Go.RowKit

theorem own : ownKnob Tryz.prog.godebug = none := by kernel_rfl
theorem laidOut : laidOutB Tryz.prog = true := by kernel_rfl
/-- Arguments read behind the call as before it. -/
theorem trodAll_below {H : Type} {enc : TypeId × Value → H} {P : Program} {W W' : World} (hl : laidOutB P = true) (hb : Below W.heap.size W W') :
    ∀ {ts : List TypeId} {vs : List Value} {ds : List (DataW H)} {ps : List MemPlace}, (ts.all fun t => P.readableRec t && decide (t < P.types.size)) = true → DataW.TrodAll enc P W 0 (fun _ => true) true ts vs ds ps →
      (∀ x ∈ ps, x.block < W.heap.size) → DataW.TrodAll enc P W' 0 (fun b => decide (b < W.heap.size)) true ts vs ds ps
  | [], [], [], _, _, h, _ => h
  | t :: ts, v :: vs, d :: ds, _, hts, h, hlt => by
    obtain ⟨p, q, h1, h2, rfl⟩ := h
    rw [List.all_cons, Bool.and_eq_true, Bool.and_eq_true, decide_eq_true_eq] at hts
    exact ⟨p, q, Below.trod hl hts.1.1 hts.1.2 h1 hb (fun x hx => hlt x (List.mem_append_left _ hx)), trodAll_below hl hb hts.2 h2 (fun x hx => hlt x (List.mem_append_right _ hx)), rfl⟩
  | [], _ :: _, _, _, _, h, _ => h.elim
  | [], [], _ :: _, _, _, h, _ => h.elim
  | _ :: _, [], _, _, _, h, _ => h.elim
  | _ :: _, _ :: _, [], _, _, h, _ => h.elim
/-- A law's post, where the call answers true and only makes memory. -/
theorem law_post {H : Type} {enc : TypeId × Value → H} {P : Program} {f : Func} {s : ChangeSpec} {tb : TypeId} {W W' : World} {args : Array Value} {ds : List (DataW H)} {before : List MemPlace}
    (hl : laidOutB P = true) (hts : (f.params.toList.all fun t => P.readableRec t && decide (t < P.types.size)) = true) (hres : f.resultTypes = #[tb]) (hbool : P.underlying tb = some .bool)
    (hW : DataW.Whole enc P f.params.toList s.vars false W args.toList ds [] before) (hv : s.vars = []) (hfn : s.fn H (ds ++ []) = { results := [.lit (.bool true)], args := ds })
    (hA : DataW.TrodAll enc P W 0 (fun _ => true) true f.params.toList args.toList ds before) (hb : Below W.heap.size W W') :
    s.post enc P f false true false false W args (.bool true) W' := by
  refine ⟨ds, [], before, [], before, [], hW, ?_, ?_, ?_, World.keptBut_mono (fun p hp => ⟨hp, Or.inr (Or.inl hp)⟩) (hb.frame _), fun h => by cases h⟩
  · rw [hfn, hres]
    exact trodAll_cons_mk (shut_bool hbool true) trodAll_mk0
  · rw [hfn]
    exact trodAll_below hl hb hts hA (fun x hx => hW.lt x hx)
  · rw [hfn, hv]
    exact rfl
/-- A table's block. -/
theorem tab_block {P : Program} {W : World} {name : String} {k : IntKind} {zs : List Int} {g : Nat} (hg : P.globalNamed name = some g) (h : Lib.TabIs P W name k zs) :
    ∃ t fr, W.heap[g]? = some (.cells (zs.map fun z => Value.int k z).toArray t fr) := by
  unfold Lib.TabIs World.var? at h
  simp only [hg, Option.bind_some] at h
  split at h
  · rename_i cs t fr hb
    injection h with h
    exact ⟨t, fr, by rw [hb, h]⟩
  · cases h
theorem tab_lt {P : Program} {W : World} {name : String} {k : IntKind} {zs : List Int} {g : Nat} (hg : P.globalNamed name = some g) (h : Lib.TabIs P W name k zs) : g < W.heap.size := by
  obtain ⟨t, fr, h⟩ := tab_block hg h
  exact (Array.getElem?_eq_some_iff.1 h).1
end Go.Proofs.YtpmikpijonccjaaGreatDoor

/- Plain functions for the layer digest: what Sum, Hex, ReadHex, Mac .. compute, on byte arrays and integers. No program in sight. -/
namespace Go.Proofs.YtpmikpijonccjaaGreatDoor
open Go.RowKit

/-- One round of Sum's loop. -/
def sumStep (h : Int) (c : UInt8) : Int := IntKind.u64.wrap (bits BinOp.xor IntKind.u64 h (IntKind.u64.wrap (c.toNat : Int)) * 1099511628211)
/-- The loop. -/
def sumRun (l : List UInt8) : Int := l.foldl sumStep 14695981039346656037
/-- The final mixing. -/
def sumMix (z : Int) : Int :=
  (bits BinOp.xor IntKind.u64
              (IntKind.u64.wrap
                (bits BinOp.xor IntKind.u64
                    (IntKind.u64.wrap (bits BinOp.xor IntKind.u64 z (z / 8589934592) * 18397679294719823053))
                    (IntKind.u64.wrap (bits BinOp.xor IntKind.u64 z (z / 8589934592) * 18397679294719823053) /
                      8589934592) *
                  14181476777654086739))
              (IntKind.u64.wrap
                  (bits BinOp.xor IntKind.u64
                      (IntKind.u64.wrap (bits BinOp.xor IntKind.u64 z (z / 8589934592) * 18397679294719823053))
                      (IntKind.u64.wrap (bits BinOp.xor IntKind.u64 z (z / 8589934592) * 18397679294719823053) /
                        8589934592) *
                    14181476777654086739) /
                8589934592))
def sumS (s : ByteArray) : Int := sumMix (sumRun s.data.toList)

theorem take_snoc (s : ByteArray) (k : Nat) (h : k < s.size) : s.data.toList.take (k + 1) = s.data.toList.take k ++ [s[k]] := by
  rw [List.take_succ_eq_append_getElem (by simpa using h)]; rfl
theorem sumRun_snoc (s : ByteArray) (k : Nat) (h : k < s.size) : sumRun (s.data.toList.take (k + 1)) = IntKind.u64.wrap (bits BinOp.xor IntKind.u64 (sumRun (s.data.toList.take k)) (IntKind.u64.wrap (s[k].toNat : Int)) * 1099511628211) := by
  rw [take_snoc s k h]; unfold sumRun; rw [List.foldl_append]; rfl
theorem sumRun_all (s : ByteArray) (k : Nat) (h : ¬ k < s.size) : sumRun (s.data.toList.take k) = sumRun s.data.toList := by
  rw [List.take_of_length_le]; simp; have : s.size = s.data.size := rfl; omega

/-- x & 15 on uint64. -/
theorem and15 (x : Int) : bits BinOp.and IntKind.u64 x 15 = x % 16 := by
  show IntKind.u64.wrap ((BitVec.ofInt 64 x &&& BitVec.ofInt 64 15).toNat : Int) = _
  have h1 : (BitVec.ofInt 64 x).toNat = (x % 18446744073709551616).toNat := by rw [BitVec.toNat_ofInt]; rfl
  have h2 : (BitVec.ofInt 64 15).toNat = 15 := by decide
  rw [BitVec.toNat_and, h1, h2, show (15 : Nat) = 2 ^ 4 - 1 from rfl, Nat.and_two_pow_sub_one_eq_mod, IntKind.wrap_u64]
  omega

/-- The digit with a value below 16. -/
def hexDig (d : Nat) : UInt8 := if d < 10 then UInt8.ofNat (48 + d) else UInt8.ofNat (87 + d)
/-- The last i hexadecimal digits of n. -/
def hexTail : Nat → Int → List UInt8
  | 0, _ => []
  | i + 1, n => hexDig (n / 16 ^ i % 16).toNat :: hexTail i n
/-- The 16 hexadecimal digits of n. -/
def hexS (n : Int) : ByteArray := ⟨(hexTail 16 n).toArray⟩
theorem hexTail_length (i : Nat) (n : Int) : (hexTail i n).length = i := by
  induction i with
  | zero => rfl
  | succ i ih => simp [hexTail, ih]
theorem hexS_size (n : Int) : (hexS n).size = 16 := by
  show (hexTail 16 n).toArray.size = 16
  simp [hexTail_length]
/-- What holds in identityref03.Hex behind k rounds. -/
def HexAt (n : Int) (k : Nat) (z : Int) (t : ByteArray) : Prop := z = n / 16 ^ k ∧ t = ⟨(hexTail k n).toArray⟩
theorem HexAt.zero (n : Int) : HexAt n 0 n ⟨#[]⟩ := ⟨by simp, rfl⟩
theorem digit_extract (d : Nat) (h : d < 16) : (⟨#[48, 49, 50, 51, 52, 53, 54, 55, 56, 57, 97, 98, 99, 100, 101, 102]⟩ : ByteArray).extract d (d + 1) = ⟨#[hexDig d]⟩ := by
  have : ∀ d : Fin 16, (⟨#[48, 49, 50, 51, 52, 53, 54, 55, 56, 57, 97, 98, 99, 100, 101, 102]⟩ : ByteArray).extract d.1 (d.1 + 1) = ⟨#[hexDig d.1]⟩ := by decide +kernel
  exact this ⟨d, h⟩
theorem HexAt.step {n : Int} {k : Nat} {z : Int} {t : ByteArray} (h : HexAt n k z t) (hlt : k < 16) (h0 : 0 ≤ n) (h1 : n < 18446744073709551616) :
    0 ≤ IntKind.u64.wrap (z.tdiv 16) ∧ ((⟨#[48, 49, 50, 51, 52, 53, 54, 55, 56, 57, 97, 98, 99, 100, 101, 102]⟩ : ByteArray).extract (z % 16).toNat (z % 16 + 1).toNat ++ t).size ≤ 16 ∧ HexAt n (k + 1) (IntKind.u64.wrap (z.tdiv 16)) ((⟨#[48, 49, 50, 51, 52, 53, 54, 55, 56, 57, 97, 98, 99, 100, 101, 102]⟩ : ByteArray).extract (z % 16).toNat (z % 16 + 1).toNat ++ t) := by
  obtain ⟨rfl, rfl⟩ := h
  have p16 : (0 : Int) < 16 ^ k := Int.pow_pos (by decide)
  have z0 : 0 ≤ n / 16 ^ k := Int.ediv_nonneg h0 (by omega)
  have z1 : n / 16 ^ k ≤ n := Int.ediv_le_self _ h0
  have hw : IntKind.u64.wrap ((n / 16 ^ k).tdiv 16) = n / 16 ^ (k + 1) := by
    rw [Int.tdiv_eq_ediv_of_nonneg z0, IntKind.wrap_u64, Int.emod_eq_of_lt (by omega) (by omega), Int.pow_succ, Int.ediv_ediv_of_nonneg (by omega)]
  have hx : (⟨#[48, 49, 50, 51, 52, 53, 54, 55, 56, 57, 97, 98, 99, 100, 101, 102]⟩ : ByteArray).extract (n / 16 ^ k % 16).toNat (n / 16 ^ k % 16 + 1).toNat ++ ⟨(hexTail k n).toArray⟩ = ⟨(hexTail (k + 1) n).toArray⟩ := by
    have e : (n / 16 ^ k % 16 + 1).toNat = (n / 16 ^ k % 16).toNat + 1 := by omega
    rw [e, digit_extract _ (by omega)]
    apply ByteArray.ext
    simp [hexTail, ByteArray.data_append]
  rw [hx, hw]
  refine ⟨Int.ediv_nonneg h0 (Int.le_of_lt (Int.pow_pos (by decide))), ?_, rfl, rfl⟩
  show (hexTail (k + 1) n).toArray.size ≤ 16
  simp [hexTail_length]; omega
theorem HexAt.done {n : Int} {k : Nat} {z : Int} {t : ByteArray} (h : HexAt n k z t) (hk : k ≤ 16) (hlt : ¬ k < 16) : t = hexS n := by
  obtain ⟨rfl, rfl⟩ := h
  obtain rfl : k = 16 := by omega
  rfl
/-- The cells of digest.Hex's array when i digits are written. -/
def hexCells (i : Nat) (n : Int) : Array Value := (List.replicate (16 - i) (Value.int IntKind.u8 0) ++ (hexTail i n).map (fun c => Value.int IntKind.u8 (c.toNat : Int))).toArray
end Go.Proofs.YtpmikpijonccjaaGreatDoor

/- Small lemmas for all walks of this seat. -/
namespace Go.Proofs.YtpmikpijonccjaaGreatDoor
open Go.RowKit

theorem ret_val {a b : Value} (h : a = b) : Ending.returned a = .returned b := by rw [h]
theorem ret_str {a b : ByteArray} (h : a = b) : Ending.returned (.string a) = .returned (.string b) := by rw [h]
theorem ret_int {k : IntKind} {a b : Int} (h : a = b) : Ending.returned (.int k a) = .returned (.int k b) := by rw [h]
theorem ret_bool {a b : Bool} (h : a = b) : Ending.returned (.bool a) = .returned (.bool b) := by rw [h]
/-- What stood in memory before stands there still. -/
theorem bcell {W w1 : World} (hb : Below W.heap.size W w1) : (∀ b o, b < W.heap.size → w1.cell? ⟨b, o, none⟩ = W.cell? ⟨b, o, none⟩) ∧ (∀ b o, b < W.heap.size → w1.frozen? ⟨b, o, none⟩ = W.frozen? ⟨b, o, none⟩) :=
  ⟨fun b o h => hb.cell (p := ⟨b, o, none⟩) h, fun b o h => hb.frozen (p := ⟨b, o, none⟩) h⟩
/-- A step after another one. -/
theorem bthen {W w1 w2 : World} (h1 : Below W.heap.size W w1) (h2 : Below w1.heap.size w1 w2) : Below W.heap.size W w2 := h1.trans (h2.mono h1.size)
theorem addr_add (b j : Nat) : (⟨b, 0, none⟩ : Addr).add j = ⟨b, j, none⟩ := by
  by_cases h : j = 0 <;> simp [Addr.add, h]
theorem addr_add_off (b o j : Nat) : (⟨b, o, none⟩ : Addr).add j = ⟨b, o + j, none⟩ := by
  by_cases h : j = 0 <;> simp [Addr.add, h]
/-- An owned row stays owned over a call that makes memory. -/
theorem own_below {w w' : World} {base : Nat} {e : TypeId} {size n : Nat} {v : Value} {xs : List Value} (h : w.ownsRow base e size v n xs) (hb : Below w.heap.size w w') : w'.ownsRow base e size v n xs := by
  refine ⟨h.1, ?_⟩
  rcases h.2 with hn | ⟨g, cap, cur, rfl, hg, hh, rest⟩
  · exact .inl hn
  · exact .inr ⟨g, cap, cur, rfl, hg, (hb.block g (Array.getElem?_eq_some_iff.1 hh).1).trans hh, rest⟩
theorem toList_inj {a b : ByteArray} (h : a.toList = b.toList) : a = b := by
  rw [Lib.toList_data, Lib.toList_data] at h
  exact ByteArray.ext (Array.toList_inj.1 h)
/-- Two strings that differ, as the walk asks it. -/
theorem str_ne {a b : ByteArray} (h : a ≠ b) : (a.toList == b.toList) = false := by
  rw [beq_eq_false_iff_ne]; exact fun e => h (toList_inj e)
end Go.Proofs.YtpmikpijonccjaaGreatDoor

/- digest.Sum and identityref03.Sum compute sumS. -/
namespace Go.Proofs.YtpmikpijonccjaaGreatDoor
open Go.RowKit

end Go.Proofs.YtpmikpijonccjaaGreatDoor

/- digest.Hex and identityref03.Hex compute hexS. -/
namespace Go.Proofs.YtpmikpijonccjaaGreatDoor
open Go.RowKit

/-- The package's table of digits, as its block holds it. -/
def digCells : Array Value := #[.int .u8 48, .int .u8 49, .int .u8 50, .int .u8 51, .int .u8 52, .int .u8 53, .int .u8 54, .int .u8 55, .int .u8 56, .int .u8 57, .int .u8 97, .int .u8 98, .int .u8 99, .int .u8 100, .int .u8 101, .int .u8 102]
theorem digCells_at (k : Nat) (h : k < 16) : digCells[k]? = some (.int .u8 ((hexDig k).toNat : Int)) := by
  rcases k with _|_|_|_|_|_|_|_|_|_|_|_|_|_|_|_|k <;> first | omega | rfl
theorem hexS_lit (n : Int) : hexS n = ⟨#[hexDig (n / 1152921504606846976 % 16).toNat, hexDig (n / 72057594037927936 % 16).toNat, hexDig (n / 4503599627370496 % 16).toNat, hexDig (n / 281474976710656 % 16).toNat, hexDig (n / 17592186044416 % 16).toNat, hexDig (n / 1099511627776 % 16).toNat, hexDig (n / 68719476736 % 16).toNat, hexDig (n / 4294967296 % 16).toNat, hexDig (n / 268435456 % 16).toNat, hexDig (n / 16777216 % 16).toNat, hexDig (n / 1048576 % 16).toNat, hexDig (n / 65536 % 16).toNat, hexDig (n / 4096 % 16).toNat, hexDig (n / 256 % 16).toNat, hexDig (n / 16 % 16).toNat, hexDig (n % 16).toNat]⟩ := by
  simp [hexS, hexTail]
end Go.Proofs.YtpmikpijonccjaaGreatDoor

/- digest.Text, digest.Chain and their references compute textS. -/
namespace Go.Proofs.YtpmikpijonccjaaGreatDoor
open Go.RowKit

theorem sumMix_range (z : Int) (_h0 : 0 ≤ z) (_h1 : z < 18446744073709551616) : 0 ≤ sumMix z ∧ sumMix z < 18446744073709551616 := by
  unfold sumMix
  generalize IntKind.u64.wrap _ = a
  generalize a / 8589934592 = b
  show 0 ≤ IntKind.u64.wrap _ ∧ IntKind.u64.wrap _ < _
  rw [IntKind.wrap_u64]
  omega
theorem sumS_range (s : ByteArray) : 0 ≤ sumS s ∧ sumS s < 18446744073709551616 := by
  unfold sumS sumMix
  generalize IntKind.u64.wrap _ = a
  generalize a / 8589934592 = b
  show 0 ≤ IntKind.u64.wrap _ ∧ IntKind.u64.wrap _ < _
  rw [IntKind.wrap_u64]
  omega
/-- The hexadecimal digest of a string. -/
def textS (s : ByteArray) : ByteArray := hexS (sumS s)
theorem textS_size (s : ByteArray) : (textS s).size = 16 := hexS_size _

/-- "|". -/
def barS : ByteArray := ⟨#[124]⟩
theorem bar_size (p s : ByteArray) (hp : p.size ≤ 1000000) (hs : s.size ≤ 1000000) : (p ++ ⟨#[124]⟩ ++ s).size ≤ 9223372036854775807 := by
  simp only [ByteArray.size_append]
  have : (⟨#[124]⟩ : ByteArray).size = 1 := rfl
  omega
def chainS (p s : ByteArray) : ByteArray := textS (p ++ barS ++ s)

/-- The salted digest behind k rounds. -/
def iterN (salt h : ByteArray) : Nat → ByteArray
  | 0 => h
  | k + 1 => textS (iterN salt h k ++ barS ++ salt)
def iterateS (salt s : ByteArray) (rounds : Int) : ByteArray := iterN salt (textS (salt ++ barS ++ s)) (min (max rounds 0) 64).toNat
theorem iterN_size (salt s : ByteArray) (k : Nat) : (iterN salt (textS s) k).size = 16 := by
  cases k <;> simp [iterN, textS_size]

attribute [irreducible] textS
end Go.Proofs.YtpmikpijonccjaaGreatDoor

/- digest.Mac and its reference compute macS. -/
namespace Go.Proofs.YtpmikpijonccjaaGreatDoor
open Go.RowKit

/-- The table of powers of ten is laid. -/
def PowOk (w : World) : Prop := (∃ g, Tryz.prog.globalNamed "internal/strconv.uint64pow10" = some g ∧ g < w.heap.size) ∧ Lib.TabIs Tryz.prog w "internal/strconv.uint64pow10" .u64 Lib.pow10Tab
theorem PowOk.below {w w' : World} (h : PowOk w) (hb : Below w.heap.size w w') : PowOk w' := by
  obtain ⟨⟨g, hg, hl⟩, ht⟩ := h
  exact ⟨⟨g, hg, Nat.lt_of_lt_of_le hl hb.size⟩, var?_below hb hg hl ht⟩
/-- The decimal form of a number, as a string. -/
def itoaS (n : Int) : ByteArray := ⟨(Lib.itoa n).toArray⟩
theorem itoaS_size (n : Int) (h0 : -9223372036854775808 ≤ n) (h1 : n ≤ 9223372036854775807) : (itoaS n).size ≤ 21 := by
  show (Lib.itoa n).toArray.size ≤ 21
  simpa using Lib.itoa_length_le n h0 h1
/-- strconv.Itoa. -/
theorem itoa_any (n : Int) (w : World) (h0 : -9223372036854775808 ≤ n) (h1 : n ≤ 9223372036854775807) (hp : PowOk w) :
    Calls Tryz.prog 99 #[.int .i64 n] w fun e w' => e = .returned (.string (itoaS n)) ∧ Below w.heap.size w w' :=
  (Tryz.strconv_Itoa n h0 h1 w hp.2).mono fun _ _ ⟨he, k, os, hw⟩ => ⟨he, by rw [hw]; exact Lib.below_grow _ _ (Nat.le_refl _) _ _⟩

theorem decDigits_piece (d : Nat) (h : d < 10) : (⟨#[48, 49, 50, 51, 52, 53, 54, 55, 56, 57]⟩ : ByteArray).extract d (d + 1) = ⟨(Lib.decDigits d).toArray⟩ := by
  have : ∀ d : Fin 10, (⟨#[48, 49, 50, 51, 52, 53, 54, 55, 56, 57]⟩ : ByteArray).extract d.1 (d.1 + 1) = ⟨#[UInt8.ofNat (48 + d.1)]⟩ := by decide +kernel
  rw [this ⟨d, h⟩, Lib.decDigits_one h]
def decS (n : Nat) : ByteArray := ⟨(Lib.decDigits n).toArray⟩
theorem decS_size (n : Nat) (h : n < 18446744073709551616) : (decS n).size ≤ 20 := by
  show (Lib.decDigits n).toArray.size ≤ 20
  have := Lib.nDigits_le20 n h
  simpa [Lib.decDigits_length] using this

def macP (key : ByteArray) : ByteArray := itoaS key.size ++ ⟨#[58]⟩ ++ key
def macS (key s : ByteArray) : ByteArray := textS (macP key ++ textS (macP key ++ s))
theorem itoaS_nat (n : Nat) : itoaS n = decS n := by unfold itoaS decS; rw [Lib.itoa_nonneg]
theorem macP_size (key : ByteArray) (h : key.size ≤ 1000000) : (macP key).size ≤ 1000022 := by
  have := itoaS_size key.size (by omega) (by omega)
  have h1 : (⟨#[58]⟩ : ByteArray).size = 1 := rfl
  simp only [macP, ByteArray.size_append]
  omega

theorem macP_size2 (key s : ByteArray) (h : key.size ≤ 1000000) (hs : s.size ≤ 1000000) : (macP key ++ s).size ≤ 9223372036854775807 := by
  have := macP_size key h
  simp only [ByteArray.size_append]
  omega

end Go.Proofs.YtpmikpijonccjaaGreatDoor

/- What the variables of strconv hold. -/
namespace Go.Proofs.YtpmikpijonccjaaGreatDoor
open Go.RowKit

/-- What the variables of strconv hold. -/
def ErrsOk (w : World) : Prop := (∃ t p, w.var? Tryz.prog "strconv.ErrSyntax" = some #[.iface t p]) ∧ (∃ t p, w.var? Tryz.prog "strconv.ErrRange" = some #[.iface t p]) ∧ 2 < w.heap.size ∧ 3 < w.heap.size
theorem ErrsOk.below {w w' : World} (h : ErrsOk w) (hb : Below w.heap.size w w') : ErrsOk w' := by
  obtain ⟨⟨t, p, h1⟩, ⟨t', p', h2⟩, l1, l2⟩ := h
  exact ⟨⟨t, p, var?_below hb (by kernel_rfl) l1 h1⟩, ⟨t', p', var?_below hb (by kernel_rfl) l2 h2⟩, Nat.lt_of_lt_of_le l1 hb.size, Nat.lt_of_lt_of_le l2 hb.size⟩
end Go.Proofs.YtpmikpijonccjaaGreatDoor

/- fold.Word: a word is 1 to 64 bytes, each a letter, a digit, or one of - _ . : -/

namespace Go.Proofs.YtpmikpijonccjaaGreatDoor
open Go.RowKit

/-- A letter or a digit. -/
def alnumC (c : UInt8) : Bool := decide ((97 ≤ c.toNat ∧ c.toNat ≤ 122) ∨ (65 ≤ c.toNat ∧ c.toNat ≤ 90) ∨ (48 ≤ c.toNat ∧ c.toNat ≤ 57))
/-- A byte of a word. -/
def wordC (c : UInt8) : Bool := alnumC c || decide (c.toNat = 45 ∨ c.toNat = 95 ∨ c.toNat = 46 ∨ c.toNat = 58)
def wordS (s : ByteArray) : Bool := decide (1 ≤ s.size ∧ s.size ≤ 64) && s.data.toList.all wordC
theorem alnumC_mk {c : UInt8} {b : Bool} (h : b = true ↔ ((97 ≤ c.toNat ∧ c.toNat ≤ 122) ∨ (65 ≤ c.toNat ∧ c.toNat ≤ 90) ∨ (48 ≤ c.toNat ∧ c.toNat ≤ 57))) : b = alnumC c := by
  rw [Bool.eq_iff_iff, h, alnumC, decide_eq_true_iff]
theorem wordC_mk {c : UInt8} {b : Bool} (h : b = true ↔ (((97 ≤ c.toNat ∧ c.toNat ≤ 122) ∨ (65 ≤ c.toNat ∧ c.toNat ≤ 90) ∨ (48 ≤ c.toNat ∧ c.toNat ≤ 57)) ∨ (c.toNat = 45 ∨ c.toNat = 95 ∨ c.toNat = 46 ∨ c.toNat = 58))) : b = wordC c := by
  rw [Bool.eq_iff_iff, h, wordC, alnumC, Bool.or_eq_true, decide_eq_true_iff, decide_eq_true_iff]

set_option maxHeartbeats 1000000 in
theorem wordByte_any (c : UInt8) (w : World) :
    Calls Tryz.prog 65 #[.int .u8 (c.toNat : Int)] w fun e w' => e = .returned (.bool (wordC c)) ∧ w = w' := by
  have hcs : (97 ≤ c.toNat ∧ c.toNat ≤ 122) ∨ (65 ≤ c.toNat ∧ c.toNat ≤ 90) ∨ (48 ≤ c.toNat ∧ c.toNat ≤ 57) ∨ c.toNat = 45 ∨ c.toNat = 95 ∨ c.toNat = 46 ∨ c.toNat = 58 ∨ (c.toNat < 45) ∨ c.toNat = 47 ∨ (58 < c.toNat ∧ c.toNat < 65) ∨ (90 < c.toNat ∧ c.toNat < 95) ∨ c.toNat = 96 ∨ 122 < c.toNat := by omega
  go_enter Tryz.func65, Tryz.ntmps65
  generalize hn : c.toNat = n at *
  have HN := Lib.hid hn
  clear hn
  rcases hcs with ⟨h1, h2⟩ | ⟨h1, h2⟩ | ⟨h1, h2⟩ | rfl | rfl | rfl | rfl | h | rfl | ⟨h1, h2⟩ | ⟨h1, h2⟩ | rfl | h
  all_goals
    go_wp2
    go_ret
    exact ⟨ret_bool (wordC_mk (by rw [HN.out]; simp; try omega)), rfl⟩

theorem take_all {s : ByteArray} {k : Nat} {p : UInt8 → Bool} (h : k < s.size) (ha : (s.data.toList.take k).all p = true) (hc : p s[k] = true) : (s.data.toList.take (k + 1)).all p = true := by
  rw [take_snoc s k h, List.all_append, ha]; simp [hc]
theorem all_bad {s : ByteArray} {k : Nat} {p : UInt8 → Bool} (h : k < s.size) (hc : p s[k] = false) : s.data.toList.all p = false := by
  rw [List.all_eq_false]
  exact ⟨s[k], by rw [← Array.mem_def]; exact Array.getElem_mem _, by simp [hc]⟩
theorem all_done {s : ByteArray} {k : Nat} {p : UInt8 → Bool} (h : ¬ k < s.size) (ha : (s.data.toList.take k).all p = true) : s.data.toList.all p = true := by
  rwa [List.take_of_length_le (by simp; have : s.size = s.data.size := rfl; omega)] at ha
set_option maxHeartbeats 1000000 in
theorem made_word (s : ByteArray) (w : World) (hs : s.size ≤ 9223372036854775807) :
    Calls Tryz.prog 64 #[.string s, .func (.func 65) #[] #[]] w fun e w' => e = .returned (.bool (wordS s)) ∧ w = w' := by
  go_enter Tryz.func64, Tryz.ntmps64
  go_wp2_with fail
  go_loop [5, 8] (fun _ j => ∃ k : Nat, k ≤ s.size ∧ j = .int .i64 k ∧ Hid ((s.data.toList.take k).all wordC = true)) (fun _ i => s.size - (intOf i).toNat)
  case atStart => exact ⟨0, Nat.zero_le _, rfl, Lib.hid (by simp)⟩
  case round =>
    obtain ⟨k, hk, rfl, HA⟩ := hrel
    by_cases hlt : k < s.size
    · go_wp2_with fail
      cases hc : wordC s[k] with
      | false =>
        have HC := Lib.hid hc
        refine (wordByte_any s[k] w).mono ?_
        rintro e w1 ⟨rfl, rfl⟩
        rw [hc]
        clear hc
        go_wp2_with fail
        go_ret
        exact ⟨ret_bool (by rw [wordS, all_bad hlt HC.out, Bool.and_false]), rfl⟩
      | true =>
        have HC := Lib.hid hc
        refine (wordByte_any s[k] w).mono ?_
        rintro e w1 ⟨rfl, rfl⟩
        rw [hc]
        clear hc
        go_wp2_with fail
        go_round
        case rel => exact ⟨k + 1, by omega, by go_num, Lib.hid (take_all hlt HA.out HC.out)⟩
        case measure => simp [intOf]; omega
    · have HD := Lib.hid (all_done hlt HA.out)
      by_cases h0 : s.size = 0
      · have he : s.toList = [] := by rw [Lib.toList_data]; exact List.eq_nil_of_length_eq_zero (by simpa using h0)
        have hb : (s.toList.isEmpty) = true := by rw [he]; rfl
        have H0 := Lib.hid h0
        clear h0 he
        go_wp2_with fail
        go_ret
        exact ⟨ret_bool (by rw [wordS, H0.out]; simp), rfl⟩
      · have hb : (s.toList.isEmpty) = false := by
          rw [Lib.toList_data]
          cases hl : s.data.toList with
          | nil => exact absurd (by have := congrArg List.length hl; simpa using this) h0
          | cons a l => rfl
        have h1 : 1 ≤ s.size := by omega
        clear h0
        by_cases h64 : s.size ≤ 64
        · go_wp2_with fail
          go_ret
          exact ⟨ret_bool (by rw [wordS, HD.out]; simp [h1, h64]; omega), rfl⟩
        · go_wp2_with fail
          go_ret
          exact ⟨ret_bool (by rw [wordS, HD.out]; simp [h64]; omega), rfl⟩
/-- fold.Word. -/
theorem word_any (s : ByteArray) (w : World) (hs : s.size ≤ 9223372036854775807) :
    Calls Tryz.prog 30 #[.string s] w fun e w' => e = .returned (.bool (wordS s)) ∧ w = w' := by
  go_enter Tryz.func30, Tryz.ntmps30
  go_wp2_with fail
  refine (made_word s w hs).mono ?_
  rintro e w1 ⟨rfl, rfl⟩
  go_wp2_with fail
  go_ret
  exact ⟨rfl, rfl⟩
end Go.Proofs.YtpmikpijonccjaaGreatDoor

/- fold.Clean and its reference: values of printable ASCII without spaces at the ends. -/
namespace Go.Proofs.YtpmikpijonccjaaGreatDoor
open Go.RowKit

def printC (c : UInt8) : Bool := decide (32 ≤ c.toNat ∧ c.toNat ≤ 126)
def cleanS (s : ByteArray) : Bool := decide (1 ≤ s.size ∧ s.size ≤ 256) && s.data.toList.all printC && decide (s.data.toList.head? ≠ some 32) && decide (s.data.toList.getLast? ≠ some 32)
theorem drop_same (l : List UInt8) (c : UInt8) : l.dropWhile (· == c) = l ↔ l.head? ≠ some c := by
  cases l with
  | nil => simp
  | cons x t =>
    by_cases h : x = c
    · subst h
      rw [List.dropWhile_cons_of_pos (by simp)]
      constructor
      · intro h2
        have := congrArg List.length h2
        have h3 := (List.dropWhile_suffix (l := t) (fun y => y == x)).length_le
        simp at this
        omega
      · intro h2; simp at h2
    · rw [List.dropWhile_cons_of_neg (by simpa using h)]
      simp [h]
theorem trim_same (l : List UInt8) (c : UInt8) : Lib.trimB l c = l ↔ l.head? ≠ some c ∧ l.getLast? ≠ some c := by
  have hr : ∀ l : List UInt8, Lib.trimRightB l c = l ↔ l.getLast? ≠ some c := fun l => by
    rw [Lib.trimRightB, ← List.head?_reverse, ← drop_same, List.reverse_eq_iff]
  constructor
  · intro h
    have h1 : (Lib.trimRightB l c).length ≤ l.length := by
      have := (List.dropWhile_suffix (l := l.reverse) (fun y => y == c)).length_le
      rw [Lib.trimRightB, List.length_reverse]; simpa using this
    have h2 : l.length ≤ (Lib.trimRightB l c).length := by
      have := (List.dropWhile_suffix (l := Lib.trimRightB l c) (fun y => y == c)).length_le
      rw [← Lib.trimLeftB, show Lib.trimLeftB (Lib.trimRightB l c) c = l from h] at this
      exact this
    have h3 : Lib.trimRightB l c = l := by
      have hs := List.dropWhile_suffix (l := l.reverse) (fun y => y == c)
      have hlen : (l.reverse.dropWhile (fun y => y == c)).length = l.reverse.length := by
        have e : (Lib.trimRightB l c).length = (l.reverse.dropWhile (fun y => y == c)).length := by rw [Lib.trimRightB, List.length_reverse]
        rw [← e, List.length_reverse]; omega
      rw [Lib.trimRightB, hs.eq_of_length hlen, List.reverse_reverse]
    refine ⟨?_, (hr l).1 h3⟩
    rw [Lib.trimB, h3, Lib.trimLeftB, drop_same] at h
    exact h
  · rintro ⟨h1, h2⟩
    rw [Lib.trimB, (hr l).2 h2, Lib.trimLeftB]
    exact (drop_same l c).2 h1
theorem trim_eq (s : ByteArray) : ((⟨(Lib.trimB s.data.toList 32).toArray⟩ : ByteArray) = s) ↔ (s.data.toList.head? ≠ some 32 ∧ s.data.toList.getLast? ≠ some 32) := by
  rw [← trim_same]
  constructor
  · intro h
    have := congrArg (fun b : ByteArray => b.data.toList) h
    simpa using this
  · intro h
    apply ByteArray.ext; apply Array.toList_inj.1
    simpa using h
theorem ftrim_any (s : ByteArray) (w : World) (hs : s.size ≤ 9223372036854775807) :
    Calls Tryz.prog 68 #[.string s] w fun e w' => e = .returned (.string ⟨(Lib.trimB s.data.toList 32).toArray⟩) ∧ Below w.heap.size w w' := by
  go_enter Tryz.func68, Tryz.ntmps68
  go_wp2_with fail
  refine (Tryz.strings_Trim_one s 32 (by decide) _ hs).mono ?_
  rintro e w1 ⟨rfl, hw⟩
  have HB : Hid (Below w.heap.size w w1) := Lib.hid (by
    rcases hw with rfl | rfl
    · exact Below.refl _ _
    · exact (Below.refl _ _).drew)
  clear hw
  go_wp2_with fail
  go_ret
  exact ⟨rfl, HB.out⟩
theorem clean_bad {s : ByteArray} {k : Nat} (h : k < s.size) (hp : printC s[k] = false) : cleanS s = false := by
  have : s.data.toList.all printC = false := by
    rw [Bool.eq_false_iff]
    intro ha
    rw [List.all_eq_true] at ha
    have := ha s[k] (List.mem_of_getElem? (i := k) (by simp [ByteArray.getElem_eq_getElem_data] ))
    rw [hp] at this; cases this
  rw [cleanS, this]; simp
theorem print_step {s : ByteArray} {k : Nat} (h : k < s.size) (ha : (s.data.toList.take k).all printC = true) (hp : printC s[k] = true) : (s.data.toList.take (k + 1)).all printC = true := by
  have hk : k < s.data.toList.length := by simpa using h
  rw [List.take_succ_eq_append_getElem hk, List.all_append, ha]
  have : s.data.toList[k] = s[k] := by simp [ByteArray.getElem_eq_getElem_data]
  rw [this]; simp [hp]
theorem clean_end {s : ByteArray} (ha : s.data.toList.all printC = true) : cleanS s = (decide (1 ≤ s.size ∧ s.size ≤ 256) && decide (s.data.toList.head? ≠ some 32 ∧ s.data.toList.getLast? ≠ some 32)) := by
  rw [cleanS, ha, Bool.and_true, Bool.and_assoc]
  congr 1
  rw [Bool.eq_iff_iff]; simp
theorem ret_b {b c : Bool} (h : b = c) : Ending.returned (.bool b) = .returned (.bool c) := by rw [h]
set_option maxHeartbeats 4000000 in
set_option maxRecDepth 100000 in
theorem clean_any (s : ByteArray) (w : World) (hs : s.size ≤ 9223372036854775807) :
    Calls Tryz.prog 31 #[.string s] w fun e w' => e = .returned (.bool (cleanS s)) ∧ Below w.heap.size w w' := by
  have HCB := Lib.hid (fun k h hp => @clean_bad s k h hp)
  have HCE := Lib.hid (@clean_end s)
  have HTE := Lib.hid (trim_eq s)
  obtain ⟨V, HV⟩ : ∃ V, Hid (cleanS s = V) := ⟨_, Lib.hid rfl⟩
  rw [HV.out] at HCB HCE
  rw [HV.out]
  obtain ⟨T, HT⟩ : ∃ T, Hid ((⟨(Lib.trimB s.data.toList 32).toArray⟩ : ByteArray) = T) := ⟨_, Lib.hid rfl⟩
  rw [HT.out] at HTE
  go_enter Tryz.func31, Tryz.ntmps31
  go_wp2_with fail
  go_loopw [4] (fun _ wr => ∃ pos : Nat, wr = w.iter s pos ∧ Hid ((s.data.toList.take pos).all printC = true) ∧ pos ≤ s.size) (fun _ wr => s.size - wr.iterPos w.heap.size)
  case atStart => exact ⟨0, rfl, Lib.hid (by simp), by omega⟩
  case round =>
    obtain ⟨pos, rfl, HD, hpos⟩ := hrel
    by_cases hlt : pos < s.size
    · obtain ⟨c, hc⟩ : ∃ c, s[pos].toNat = c := ⟨_, rfl⟩
      have HC := Lib.hid hc
      by_cases ha : c < 128
      · have hnx : ∀ ty, (Instr.next (.pointer (some ⟨w.heap.size, 0, none⟩)) true ty).run Tryz.prog (w.iter s pos) = .ok (.tuple #[.bool true, .int .i64 pos, .int .i32 c]) (w.iter s (pos + 1)) := fun ty => by
          have := run_next_ascii (P := Tryz.prog) w s pos ty hlt (by omega)
          rwa [hc] at this
        have hcs : c < 32 ∨ 126 < c ∨ (32 ≤ c ∧ c ≤ 126) := by omega
        clear hc
        rcases hcs with h1 | h1 | ⟨h1, h2⟩
        · have hG := Lib.hid (HCB.out pos hlt (by rw [printC, HC.out]; simp; omega))
          go_wp2_with fail
          go_ret
          exact ⟨ret_b hG.out.symm, (Below.refl _ _).alloc (Nat.le_refl _) _⟩
        · have hG := Lib.hid (HCB.out pos hlt (by rw [printC, HC.out]; simp; omega))
          go_wp2_with fail
          go_ret
          exact ⟨ret_b hG.out.symm, (Below.refl _ _).alloc (Nat.le_refl _) _⟩
        · have HD1 : Hid ((s.data.toList.take (pos + 1)).all printC = true) := Lib.hid (print_step hlt HD.out (by rw [printC, HC.out]; simp; omega))
          go_wp2_with fail
          go_roundw
          case rel => exact ⟨pos + 1, rfl, HD1, by omega⟩
          case measure => simp; omega
      · have hdec := (decode_high s pos hlt (by omega)).1
        have hG := Lib.hid (HCB.out pos hlt (by rw [printC, HC.out]; simp; omega))
        obtain ⟨r, hr⟩ : ∃ r, (Utf8.decode s pos).1 = r := ⟨_, rfl⟩
        obtain ⟨q, hq⟩ : ∃ q, pos + (Utf8.decode s pos).2 = q := ⟨_, rfl⟩
        have hnx : ∀ ty, (Instr.next (.pointer (some ⟨w.heap.size, 0, none⟩)) true ty).run Tryz.prog (w.iter s pos) = .ok (.tuple #[.bool true, .int .i64 pos, .int .i32 r]) (w.iter s q) := fun ty => by
          have := run_next_any (P := Tryz.prog) w s pos ty hlt
          rwa [hr, hq] at this
        rw [hr] at hdec
        clear hc hr hq
        go_wp2_with fail
        go_ret
        exact ⟨ret_b hG.out.symm, (Below.refl _ _).alloc (Nat.le_refl _) _⟩
    · have hnx : ∀ ty, (Instr.next (.pointer (some ⟨w.heap.size, 0, none⟩)) true ty).run Tryz.prog (w.iter s pos) = .ok (.tuple #[.bool false]) (w.iter s pos) := fun ty => run_next_end w s pos ty hlt
      have HT1 := Lib.hid (HCE.out (by have h := HD.out; rwa [List.take_of_length_le (by simp; have : s.size = s.data.size := rfl; omega)] at h))
      have HBw : Hid (Below w.heap.size w (w.iter s pos)) := Lib.hid ((Below.refl _ _).alloc (Nat.le_refl _) _)
      by_cases h0 : s.size = 0
      · have e1 : s.toList.isEmpty = true := by
          rw [Lib.toList_data, List.isEmpty_iff]
          exact List.eq_nil_of_length_eq_zero (by simpa using h0)
        have hG : Hid (V = false) := Lib.hid (by rw [HT1.out, decide_eq_false (by omega)]; rfl)
        clear h0 hlt hpos hs
        go_wp2_with fail
        go_ret
        exact ⟨ret_b hG.out.symm, HBw.out⟩
      · have e1 : s.toList.isEmpty = false := by
          rw [Lib.toList_data]
          cases hd : s.data.toList with
          | nil => exact absurd (by simpa using congrArg List.length hd) h0
          | cons a l => rfl
        by_cases h256 : 256 < s.size
        · have hG : Hid (V = false) := Lib.hid (by rw [HT1.out, decide_eq_false (by omega)]; rfl)
          go_wp2_with fail
          go_ret
          exact ⟨ret_b hG.out.symm, HBw.out⟩
        · have hin : Hid (V = decide (s.data.toList.head? ≠ some 32 ∧ s.data.toList.getLast? ≠ some 32)) := Lib.hid (by rw [HT1.out, decide_eq_true (by omega)]; rfl)
          go_wp2_with fail
          refine (ftrim_any s _ hs).mono ?_
          rintro e w2 ⟨rfl, hb2⟩
          rw [HT.out]
          by_cases hts : T = s
          · have hG : Hid (V = true) := Lib.hid (by rw [hin.out]; exact decide_eq_true (HTE.out.1 hts))
            clear HT
            subst hts
            go_wp2_with fail
            go_ret
            exact ⟨ret_b (by rw [hG.out]), bthen HBw.out hb2⟩
          · have hG : Hid (V = false) := Lib.hid (by rw [hin.out]; exact decide_eq_false (fun h => hts (HTE.out.2 h)))
            have e2 := str_ne hts
            go_wp2_with fail
            go_ret
            exact ⟨ret_b (by rw [hG.out, ← e2]), bthen HBw.out hb2⟩
end Go.Proofs.YtpmikpijonccjaaGreatDoor

/- The reference's Clean. -/
namespace Go.Proofs.YtpmikpijonccjaaGreatDoor
open Go.RowKit

theorem head_at {s : ByteArray} (h : 0 < s.size) : s.data.toList.head? = some s[0] := by
  cases hd : s.data.toList with
  | nil =>
    have h0 : s.data.toList.length = 0 := by rw [hd]; rfl
    have e : s.data.toList.length = s.size := by simp
    omega
  | cons a l =>
    have e : s.data.toList[0]? = some a := by rw [hd]; rfl
    have e2 : s.data.toList[0]? = some s[0] := by
      rw [List.getElem?_eq_getElem (by simpa using h)]; simp [ByteArray.getElem_eq_getElem_data]
    rw [List.head?_cons, ← e, e2]
theorem last_at {s : ByteArray} (h : 0 < s.size) : s.data.toList.getLast? = some (s[s.size - 1]'(by omega)) := by
  rw [List.getLast?_eq_getElem?]
  have hl : s.data.toList.length = s.size := by simp
  rw [hl, List.getElem?_eq_getElem (by omega)]
  simp [ByteArray.getElem_eq_getElem_data]
theorem clean_size {s : ByteArray} (h : ¬ (1 ≤ s.size ∧ s.size ≤ 256)) : cleanS s = false := by
  rw [cleanS, decide_eq_false h]; simp
theorem clean_head {s : ByteArray} (h : 0 < s.size) (hc : s[0].toNat = 32) : cleanS s = false := by
  rw [cleanS, head_at h, show s[0] = 32 from UInt8.toNat_inj.1 hc]; simp
theorem clean_last {s : ByteArray} (h : 0 < s.size) (hc : (s[s.size - 1]'(by omega)).toNat = 32) : cleanS s = false := by
  rw [cleanS, last_at h, show s[s.size - 1]'(by omega) = 32 from UInt8.toNat_inj.1 hc]; simp
theorem clean_yes {s : ByteArray} (h : 0 < s.size) (h2 : s.size ≤ 256) (h3 : s[0].toNat ≠ 32) (h4 : (s[s.size - 1]'(by omega)).toNat ≠ 32) (ha : s.data.toList.all printC = true) : cleanS s = true := by
  rw [clean_end ha, decide_eq_true (by omega), Bool.true_and, head_at h, last_at h]
  refine decide_eq_true ⟨fun e => h3 ?_, fun e => h4 ?_⟩
  · rw [Option.some.inj e]; rfl
  · rw [Option.some.inj e]; rfl
set_option maxHeartbeats 4000000 in
set_option maxRecDepth 100000 in
theorem rclean_any (s : ByteArray) (w : World) (hs : s.size ≤ 9223372036854775807) :
    Calls Tryz.prog 63 #[.string s] w fun e w' => e = .returned (.bool (cleanS s)) ∧ w = w' := by
  have HCB := Lib.hid (fun k h hp => @clean_bad s k h hp)
  have HCZ := Lib.hid (@clean_size s)
  have HCH := Lib.hid (@clean_head s)
  have HCL := Lib.hid (@clean_last s)
  have HCY := Lib.hid (@clean_yes s)
  obtain ⟨V, HV⟩ : ∃ V, Hid (cleanS s = V) := ⟨_, Lib.hid rfl⟩
  rw [HV.out] at HCB HCZ HCH HCL HCY
  rw [HV.out]
  by_cases h1 : s.size < 1
  · have hG : Hid (V = false) := Lib.hid (HCZ.out (by omega))
    go_enter Tryz.func63, Tryz.ntmps63
    go_wp2_with fail
    go_ret
    exact ⟨ret_b hG.out.symm, rfl⟩
  · by_cases h2 : 256 < s.size
    · have hG : Hid (V = false) := Lib.hid (HCZ.out (by omega))
      go_enter Tryz.func63, Tryz.ntmps63
      go_wp2_with fail
      go_ret
      exact ⟨ret_b hG.out.symm, rfl⟩
    · have hp : 0 < s.size := by omega
      have h0' : (0 : Int) < (s.size : Int) := by omega
      obtain ⟨a, ha⟩ : ∃ a, s[0].toNat = a := ⟨_, rfl⟩
      obtain ⟨z, hz⟩ : ∃ z, (s[s.size - 1]'(by omega)).toNat = z := ⟨_, rfl⟩
      have HA := Lib.hid ha
      have HZ := Lib.hid hz
      have q1 : IntKind.i64.wrap ((s.size : Int) - 1) = (s.size : Int) - 1 := IntWalk.i64_in _ (by omega)
      have q2 : ((s.size : Int) - 1).toNat = s.size - 1 := by omega
      have q3 : (0 : Int) ≤ (s.size : Int) - 1 := by omega
      have q4 : (1 : Int) ≤ (s.size : Int) := by omega
      have q5 : (s.size : Int) - 1 < (s.size : Int) := by omega
      by_cases ha32 : a = 32
      · subst ha32
        have hG : Hid (V = false) := Lib.hid (HCH.out hp HA.out)
        go_enter Tryz.func63, Tryz.ntmps63
        go_wp2_with fail
        go_ret
        exact ⟨ret_b hG.out.symm, rfl⟩
      · have e1 : ((a : Int) == 32) = false := by rw [beq_eq_false_iff_ne]; omega
        by_cases hz32 : z = 32
        · subst hz32
          have hG : Hid (V = false) := Lib.hid (HCL.out hp HZ.out)
          go_enter Tryz.func63, Tryz.ntmps63
          go_wp2_with fail
          go_ret
          exact ⟨ret_b hG.out.symm, rfl⟩
        · have e2 : ((z : Int) == 32) = false := by rw [beq_eq_false_iff_ne]; omega
          have HY := Lib.hid (fun ha => HCY.out hp (by omega) (by rw [HA.out]; exact ha32) (by rw [HZ.out]; exact hz32) ha)
          go_enter Tryz.func63, Tryz.ntmps63
          go_wp2_with fail
          clear q1 q2 q3 q4 q5 e1 e2 ha hz
          go_loop [3] (fun i => ∃ k : Nat, k ≤ s.size ∧ i = .int .i64 k ∧ Hid ((s.data.toList.take k).all printC = true)) (fun i => s.size - (intOf i).toNat)
          case atStart => exact ⟨0, Nat.zero_le _, rfl, Lib.hid (by simp)⟩
          case round =>
            obtain ⟨k, hk, rfl, HD⟩ := hrel
            by_cases hlt : k < s.size
            · obtain ⟨c, hc⟩ : ∃ c, s[k].toNat = c := ⟨_, rfl⟩
              have HC := Lib.hid hc
              have hcs : c < 32 ∨ 126 < c ∨ (32 ≤ c ∧ c ≤ 126) := by omega
              rcases hcs with g1 | g1 | ⟨g1, g2⟩
              · have hG := Lib.hid (HCB.out k hlt (by rw [printC, HC.out]; simp; omega))
                go_wp2_with fail
                go_ret
                exact ⟨ret_b hG.out.symm, rfl⟩
              · have hG := Lib.hid (HCB.out k hlt (by rw [printC, HC.out]; simp; omega))
                go_wp2_with fail
                go_ret
                exact ⟨ret_b hG.out.symm, rfl⟩
              · have HD1 : Hid ((s.data.toList.take (k + 1)).all printC = true) := Lib.hid (print_step hlt HD.out (by rw [printC, HC.out]; simp; omega))
                go_wp2_with fail
                go_round
                case rel => exact ⟨k + 1, hlt, by go_num, HD1⟩
                case measure => simp [intOf]; omega
            · have hG := Lib.hid (HY.out (by have h := HD.out; rwa [List.take_of_length_le (by simp; have : s.size = s.data.size := rfl; omega)] at h))
              go_wp2_with fail
              go_ret
              exact ⟨ret_b hG.out.symm, rfl⟩
end Go.Proofs.YtpmikpijonccjaaGreatDoor

/- Instants: clock.Valid and its reference. -/
namespace Go.Proofs.YtpmikpijonccjaaGreatDoor
open Go.RowKit

def validT (t : Int) : Bool := decide (0 ≤ t ∧ t ≤ 1099511627776)
/-- The nearest instant. -/
def limT (t : Int) : Int := min (max t 0) 1099511627776
theorem climited_any (t : Int) (w : World) :
    Calls Tryz.prog 70 #[.int .i64 t] w fun e w' => e = .returned (.int .i64 (limT t)) ∧ w = w' := by
  go_enter Tryz.func70, Tryz.ntmps70
  go_wp2_with fail
  all_goals
    go_ret
    exact ⟨ret_int (by unfold limT; omega), rfl⟩
theorem cvalid_any (t : Int) (w : World) :
    Calls Tryz.prog 33 #[.int .i64 t] w fun e w' => e = .returned (.bool (validT t)) ∧ w = w' := by
  have HV : Hid ((t == limT t) = validT t) := Lib.hid (by
    unfold limT validT
    by_cases h : 0 ≤ t ∧ t ≤ 1099511627776
    · rw [decide_eq_true h, beq_iff_eq]; omega
    · rw [decide_eq_false h, beq_eq_false_iff_ne]; omega)
  obtain ⟨m, HM⟩ : ∃ m, Hid (limT t = m) := ⟨_, Lib.hid rfl⟩
  rw [HM.out] at HV
  go_enter Tryz.func33, Tryz.ntmps33
  go_wp2_with fail
  refine (climited_any t w).mono ?_
  rintro e w1 ⟨rfl, rfl⟩
  rw [HM.out]
  go_wp2_with fail
  go_ret
  exact ⟨ret_bool HV.out, rfl⟩
theorem rvalidT_any (t : Int) (w : World) :
    Calls Tryz.prog 36 #[.int .i64 t] w fun e w' => e = .returned (.bool (validT t)) ∧ w = w' := by
  by_cases h0 : 0 ≤ t
  · have HV : Hid (decide (t ≤ 1099511627776) = validT t) := Lib.hid (by
      unfold validT; exact decide_eq_decide.2 ⟨fun h => ⟨h0, h⟩, fun h => h.2⟩)
    go_enter Tryz.func36, Tryz.ntmps36
    go_wp2_with fail
    go_ret
    exact ⟨ret_bool HV.out, rfl⟩
  · have HV : Hid (false = validT t) := Lib.hid (by unfold validT; exact (decide_eq_false (fun h => h0 h.1)).symm)
    go_enter Tryz.func36, Tryz.ntmps36
    go_wp2_with fail
    go_ret
    exact ⟨ret_bool HV.out, rfl⟩
end Go.Proofs.YtpmikpijonccjaaGreatDoor

/- A slice that reads as a list of strings. -/
namespace Go.Proofs.YtpmikpijonccjaaGreatDoor
open Go.RowKit

/-- A slice's address reads as a list of strings. -/
def Strs (w : World) (A : Option Addr) (l : List ByteArray) : Prop :=
  ∀ i, (h : i < l.length) → ∃ b o, A = some ⟨b, o, none⟩ ∧ w.cell? ⟨b, o + i, none⟩ = some (.string l[i])
theorem Strs.below {w w' : World} {A : Option Addr} {l : List ByteArray} (h : Strs w A l) (hb : Below w.heap.size w w') : Strs w' A l := by
  intro i hi
  obtain ⟨b, o, e, hc⟩ := h i hi
  exact ⟨b, o, e, (hb.cell (World.block_lt_of_cell? w _ hc)).trans hc⟩
theorem Strs.nil_ (w : World) (A : Option Addr) : Strs w A [] := fun i h => absurd h (by simp)
/-- What a function that hands back a list of strings says. -/
def RetStrs (B : Nat) (w' : World) (e : Ending) (l : List ByteArray) : Prop := ∃ A cap, e = .returned (.slice A l.length cap) ∧ Strs w' A l ∧ ∀ p, A = some p → B ≤ p.block
theorem Strs.own {w : World} {base e g n cap : Nat} {xs : List Value} {l : List ByteArray} (h : w.ownsRow base e 1 (.slice (some ⟨g, 0, none⟩) n cap) n xs) (hn : n = l.length)
    (hx : ∀ j, (h : j < l.length) → xs[j]? = some (.string l[j])) : Strs w (some ⟨g, 0, none⟩) l := by
  intro i hi
  refine ⟨g, 0, rfl, ?_⟩
  rw [Nat.zero_add, h.cellAt i (by omega), hx i hi]

theorem RetStrs.own {w : World} {base e n : Nat} {v : Value} {xs : List Value} {l : List ByteArray} (h : w.ownsRow base e 1 v n xs) (hn : l.length = n)
    (hx : ∀ j, (h : j < l.length) → xs[j]? = some (.string l[j])) : RetStrs base w (.returned v) l := by
  rcases h.2 with ⟨rfl, rfl⟩ | ⟨g, cap, cur, rfl, hg, _⟩
  · have : l = [] := List.eq_nil_of_length_eq_zero hn
    subst this
    exact ⟨none, 0, rfl, Strs.nil_ _ _, fun p h => by cases h⟩
  · subst hn
    exact ⟨_, cap, rfl, Strs.own h rfl hx, fun p h => by cases h; exact hg⟩
theorem Strs.drew {w : World} {A : Option Addr} {l : List ByteArray} (h : Strs w A l) : Strs w.drew A l := h
theorem strs_take {w : World} {A : Option Addr} {l : List ByteArray} (h : Strs w A l) (k : Nat) : Strs w A (l.take k) := by
  intro i hi
  obtain ⟨b, o, e, hc⟩ := h i (by simp at hi; omega)
  exact ⟨b, o, e, by simpa using hc⟩
/-- The first k cells of a row hold the first k strings of a list. -/
def Done (xs : List Value) (l : List ByteArray) (k : Nat) : Prop := ∀ j, (h : j < l.length) → j < k → xs[j]? = some (.string l[j])
theorem Done.zero (xs : List Value) (l : List ByteArray) : Done xs l 0 := fun j _ h => absurd h (by omega)
theorem Done.set {xs : List Value} {l : List ByteArray} {k : Nat} (h : Done xs l k) (hx : k < xs.length) {v : Value} (hv : ∀ hl : k < l.length, v = .string l[k]) : Done (xs.set k v) l (k + 1) := by
  intro j hj hjk
  by_cases e : j = k
  · subst e
    rw [List.getElem?_set_self hx, hv hj]
  · rw [List.getElem?_set_ne (Ne.symm e)]
    exact h j hj (by omega)
theorem Tryz.info_s : (Tryz.prog.info? 9).map (fun i => (i.zero, i.size, i.bytes)) = some (some (.string ByteArray.empty), 1, 16) := by kernel_rfl
/-- A string as a value. -/
def strV (s : ByteArray) : Value := .string s
/-- The cells of a list of strings. -/
def strVs (l : List ByteArray) : List Value := l.map strV
theorem strVs_snoc (l : List ByteArray) (s : ByteArray) : strVs l ++ [strV s] = strVs (l ++ [s]) := by simp [strVs]
theorem strVs_at (l : List ByteArray) : ∀ j, (h : j < l.length) → (strVs l)[j]? = some (.string l[j]) := by
  intro j h
  simp [strVs, strV, h]
/-- What a function that hands back a list of strings and a code says. -/
def RetStrs2 (B : Nat) (w' : World) (e : Ending) (l : List ByteArray) (c : Int) : Prop := ∃ A cap, e = .returned (.tuple #[.slice A l.length cap, .int .i64 c]) ∧ Strs w' A l ∧ (∀ p, A = some p → B ≤ p.block) ∧ l.length ≤ cap
theorem RetStrs2.own {w : World} {base e n : Nat} {v : Value} {xs : List Value} {l : List ByteArray} {c : Int} (h : w.ownsRow base e 1 v n xs) (hn : l.length = n)
    (hx : ∀ j, (h : j < l.length) → xs[j]? = some (.string l[j])) : RetStrs2 base w (.returned (.tuple #[v, .int .i64 c])) l c := by
  rcases h.2 with ⟨rfl, rfl⟩ | ⟨g, cap, cur, rfl, hg, _, hnc, _⟩
  · have : l = [] := List.eq_nil_of_length_eq_zero hn
    subst this
    exact ⟨none, 0, rfl, Strs.nil_ _ _, (fun p h => by cases h), Nat.le_refl _⟩
  · subst hn
    exact ⟨_, cap, rfl, Strs.own h rfl hx, (fun p h => by cases h; exact hg), hnc⟩
/-- An append leaves a list alone that does not lie in the row. -/
theorem Strs.far {w w' : World} {A : Option Addr} {l : List ByteArray} {row : Option Nat} (h : Strs w A l) (hg : w.grownBy w' row) (hr : ∀ p g, A = some p → row = some g → p.block ≠ g) : Strs w' A l := by
  intro i hi
  obtain ⟨b, o, e, hc⟩ := h i hi
  refine ⟨b, o, e, ?_⟩
  have hb := World.block_lt_of_cell? w _ hc
  rw [← hc]
  refine World.cell?_of_block (hg.block b hb ?_)
  intro h
  exact hr _ b e h.symm rfl
theorem Strs.alloc {w : World} {A : Option Addr} {l : List ByteArray} (h : Strs w A l) (o : Obj) : Strs (w.alloc o) A l :=
  h.below ((Below.refl _ _).alloc (Nat.le_refl _) o)
end Go.Proofs.YtpmikpijonccjaaGreatDoor

/- Claims: plain data and what Check says of them. -/
namespace Go.Proofs.YtpmikpijonccjaaGreatDoor
open Go.RowKit

/-- Claims. -/
structure Cl where
  kind : ByteArray
  issuer : ByteArray
  subject : ByteArray
  client : ByteArray
  tenant : ByteArray
  id : ByteArray
  session : ByteArray
  nonce : ByteArray
  aud : List ByteArray
  sco : List ByteArray
  act : List ByteArray
  issued : Int
  nb : Int
  exp : Int
  auth : Int
  level : Int
/-- Where the lists of claims lie. -/
structure P3 where
  a1 : Option Addr
  c1 : Nat
  a2 : Option Addr
  c2 : Nat
  a3 : Option Addr
  c3 : Nat
def optB (s : ByteArray) : Bool := decide (s.size = 0) || wordS s
def nameB (c : Cl) : Bool := wordS c.kind && wordS c.client && wordS c.tenant && wordS c.id && optB c.session && optB c.nonce && cleanS c.issuer && cleanS c.subject
/-- Is a string in a list? -/
def memB (l : List ByteArray) (s : ByteArray) : Bool := l.any fun x => decide (x = s)
theorem memB_iff (l : List ByteArray) (s : ByteArray) : memB l s = true ↔ s ∈ l := by
  rw [memB, List.any_eq_true]
  constructor
  · rintro ⟨x, hx, h⟩
    rw [decide_eq_true_iff] at h
    exact h ▸ hx
  · intro h
    exact ⟨s, h, decide_eq_true rfl⟩
/-- The audience: words, none twice. -/
def audF : List ByteArray → List ByteArray → Int
  | _, [] => 0
  | pre, s :: l => if wordS s = true then (if memB pre s = true then 7 else audF (pre ++ [s]) l) else 5
def audE (l : List ByteArray) : Int := if l.length = 0 then 6 else if 16 < l.length then 3 else audF [] l
/-- Is p in front of s? -/
def ordB (p s : ByteArray) : Bool := Op.bytesLess p.toList s.toList
def scoF : Option ByteArray → List ByteArray → Int
  | _, [] => 0
  | none, s :: l => if wordS s = true then scoF (some s) l else 5
  | some p, s :: l => if wordS s = true then (if ordB p s = true then scoF (some s) l else 4) else 5
def scoE (l : List ByteArray) : Int := if 16 < l.length then 3 else scoF none l
def actF : List ByteArray → Int
  | [] => 0
  | s :: l => if cleanS s = true then actF l else 5
def actE (l : List ByteArray) : Int := if 4 < l.length then 3 else actF l
def timeB (c : Cl) : Bool := validT c.issued && validT c.nb && validT c.exp && validT c.auth && decide (c.issued ≤ c.exp ∧ c.nb ≤ c.exp)
def listE (c : Cl) : Int := if audE c.aud = 0 then (if scoE c.sco = 0 then actE c.act else scoE c.sco) else audE c.aud
def checkE (c : Cl) : Int :=
  if nameB c = true then (if listE c = 0 then (if timeB c = true then (if 0 ≤ c.level ∧ c.level ≤ 3 then 0 else 27) else 2) else listE c) else 5
/-- The loop over the audience. -/
def AudAt (l : List ByteArray) (k : Nat) : Prop := audF [] l = audF (l.take k) (l.drop k)
theorem AudAt.zero (l : List ByteArray) : AudAt l 0 := rfl
theorem AudAt.word {l : List ByteArray} {k : Nat} (h : AudAt l k) (hk : k < l.length) (hw : wordS l[k] = false) : audF [] l = 5 := by
  rw [h, List.drop_eq_getElem_cons hk, audF, if_neg (by rw [hw]; decide)]
theorem AudAt.twice {l : List ByteArray} {k : Nat} (h : AudAt l k) (hk : k < l.length) (hw : wordS l[k] = true) (ht : memB (l.take k) l[k] = true) : audF [] l = 7 := by
  rw [h, List.drop_eq_getElem_cons hk, audF, if_pos hw, if_pos ht]
theorem AudAt.next {l : List ByteArray} {k : Nat} (h : AudAt l k) (hk : k < l.length) (hw : wordS l[k] = true) (ht : ¬ memB (l.take k) l[k] = true) : AudAt l (k + 1) := by
  rw [AudAt, h, List.drop_eq_getElem_cons hk, audF, if_pos hw, if_neg ht, List.take_succ_eq_append_getElem hk]
theorem AudAt.done {l : List ByteArray} (h : AudAt l l.length) : audF [] l = 0 := by rw [h, List.drop_length, audF]
/-- The scope before place k. -/
def prevO (l : List ByteArray) (k : Nat) : Option ByteArray := if k = 0 then none else l[k - 1]?
def ScoAt (l : List ByteArray) (k : Nat) : Prop := scoF none l = scoF (prevO l k) (l.drop k)
theorem ScoAt.zero (l : List ByteArray) : ScoAt l 0 := rfl
theorem prevO_succ {l : List ByteArray} {k : Nat} (hk : k < l.length) : prevO l (k + 1) = some l[k] := by
  rw [prevO, if_neg (by omega), Nat.add_sub_cancel, List.getElem?_eq_getElem hk]
theorem ScoAt.word {l : List ByteArray} {k : Nat} (h : ScoAt l k) (hk : k < l.length) (hw : wordS l[k] = false) : scoF none l = 5 := by
  have hn : ¬ wordS l[k] = true := by rw [hw]; decide
  rw [h, List.drop_eq_getElem_cons hk]
  cases prevO l k with
  | none => rw [scoF, if_neg hn]
  | some p => rw [scoF, if_neg hn]
theorem ScoAt.first {l : List ByteArray} (h : ScoAt l 0) (hk : 0 < l.length) (hw : wordS l[0] = true) : ScoAt l 1 := by
  rw [ScoAt, h, List.drop_eq_getElem_cons hk, show prevO l 0 = none from rfl, scoF, if_pos hw, prevO_succ hk]
theorem ScoAt.order {l : List ByteArray} {k : Nat} (h : ScoAt l (k + 1)) (hk : k + 1 < l.length) (hw : wordS l[k + 1] = true) (ho : ordB l[k] l[k + 1] = false) : scoF none l = 4 := by
  rw [h, List.drop_eq_getElem_cons hk, prevO_succ (by omega), scoF, if_pos hw, if_neg (by rw [ho]; decide)]
theorem ScoAt.next {l : List ByteArray} {k : Nat} (h : ScoAt l (k + 1)) (hk : k + 1 < l.length) (hw : wordS l[k + 1] = true) (ho : ordB l[k] l[k + 1] = true) : ScoAt l (k + 2) := by
  rw [ScoAt, h, List.drop_eq_getElem_cons hk, prevO_succ (by omega), scoF, if_pos hw, if_pos ho, prevO_succ hk]
theorem ScoAt.done {l : List ByteArray} (h : ScoAt l l.length) : scoF none l = 0 := by
  rw [h, List.drop_length]
  cases prevO l l.length <;> rw [scoF]
def ActAt (l : List ByteArray) (k : Nat) : Prop := actF l = actF (l.drop k)
theorem ActAt.zero (l : List ByteArray) : ActAt l 0 := rfl
theorem ActAt.bad {l : List ByteArray} {k : Nat} (h : ActAt l k) (hk : k < l.length) (hw : cleanS l[k] = false) : actF l = 5 := by
  rw [h, List.drop_eq_getElem_cons hk, actF, if_neg (by rw [hw]; decide)]
theorem ActAt.next {l : List ByteArray} {k : Nat} (h : ActAt l k) (hk : k < l.length) (hw : cleanS l[k] = true) : ActAt l (k + 1) := by
  rw [ActAt, h, List.drop_eq_getElem_cons hk, actF, if_pos hw]
theorem ActAt.done {l : List ByteArray} (h : ActAt l l.length) : actF l = 0 := by rw [h, List.drop_length, actF]
/-- Claims as a value and in a variable. -/
def clV (c : Cl) (p : P3) : Value := .agg #[.string c.kind, .string c.issuer, .string c.subject, .string c.client, .string c.tenant, .string c.id, .string c.session, .string c.nonce, .slice p.a1 c.aud.length p.c1, .slice p.a2 c.sco.length p.c2, .slice p.a3 c.act.length p.c3, .int .i64 c.issued, .int .i64 c.nb, .int .i64 c.exp, .int .i64 c.auth, .int .i64 c.level]
def clO (c : Cl) (p : P3) : Obj := .cells #[.string c.kind, .string c.issuer, .string c.subject, .string c.client, .string c.tenant, .string c.id, .string c.session, .string c.nonce, .slice p.a1 c.aud.length p.c1, .slice p.a2 c.sco.length p.c2, .slice p.a3 c.act.length p.c3, .int .i64 c.issued, .int .i64 c.nb, .int .i64 c.exp, .int .i64 c.auth, .int .i64 c.level] 24 (0, 0)
/-- The lists of claims lie in memory. -/
structure ClAt (w : World) (c : Cl) (p : P3) : Prop where
  aud : Strs w p.a1 c.aud
  sco : Strs w p.a2 c.sco
  act : Strs w p.a3 c.act
theorem ClAt.below {w w' : World} {c : Cl} {p : P3} (h : ClAt w c p) (hb : Below w.heap.size w w') : ClAt w' c p := ⟨h.aud.below hb, h.sco.below hb, h.act.below hb⟩
def ClBox (w : World) (b : Nat) (c : Cl) (p : P3) : Prop := w.heap[b]? = some (clO c p)
theorem ClBox.new (w : World) (c : Cl) (p : P3) : ClBox (w.alloc (clO c p)) w.heap.size c p := heap_alloc_new w _
theorem ClBox.below {w w' : World} {b : Nat} {c : Cl} {p : P3} (h : ClBox w b c p) (hb : Below w.heap.size w w') : ClBox w' b c p := (hb.block b (Array.getElem?_eq_some_iff.1 h).1).trans h
theorem ClBox.cells {w : World} {b : Nat} {c : Cl} {p : P3} (h : ClBox w b c p) :
    w.cell? ⟨b, 0, none⟩ = some (.string c.kind) ∧ w.cell? ⟨b, 1, none⟩ = some (.string c.issuer) ∧ w.cell? ⟨b, 2, none⟩ = some (.string c.subject) ∧ w.cell? ⟨b, 3, none⟩ = some (.string c.client) ∧ w.cell? ⟨b, 4, none⟩ = some (.string c.tenant) ∧ w.cell? ⟨b, 5, none⟩ = some (.string c.id) ∧ w.cell? ⟨b, 6, none⟩ = some (.string c.session) ∧ w.cell? ⟨b, 7, none⟩ = some (.string c.nonce) ∧
    w.cell? ⟨b, 8, none⟩ = some (.slice p.a1 c.aud.length p.c1) ∧ w.cell? ⟨b, 9, none⟩ = some (.slice p.a2 c.sco.length p.c2) ∧ w.cell? ⟨b, 10, none⟩ = some (.slice p.a3 c.act.length p.c3) ∧
    w.cell? ⟨b, 11, none⟩ = some (.int .i64 c.issued) ∧ w.cell? ⟨b, 12, none⟩ = some (.int .i64 c.nb) ∧ w.cell? ⟨b, 13, none⟩ = some (.int .i64 c.exp) ∧ w.cell? ⟨b, 14, none⟩ = some (.int .i64 c.auth) ∧ w.cell? ⟨b, 15, none⟩ = some (.int .i64 c.level) :=
  ⟨cell_of_row w b 0 _ _ (0, 0) h, cell_of_row w b 1 _ _ (0, 0) h, cell_of_row w b 2 _ _ (0, 0) h, cell_of_row w b 3 _ _ (0, 0) h, cell_of_row w b 4 _ _ (0, 0) h, cell_of_row w b 5 _ _ (0, 0) h, cell_of_row w b 6 _ _ (0, 0) h, cell_of_row w b 7 _ _ (0, 0) h, cell_of_row w b 8 _ _ (0, 0) h, cell_of_row w b 9 _ _ (0, 0) h, cell_of_row w b 10 _ _ (0, 0) h, cell_of_row w b 11 _ _ (0, 0) h, cell_of_row w b 12 _ _ (0, 0) h, cell_of_row w b 13 _ _ (0, 0) h, cell_of_row w b 14 _ _ (0, 0) h, cell_of_row w b 15 _ _ (0, 0) h⟩
/-- What the values of claims may be. -/
structure ClIn (c : Cl) (p : P3) : Prop where
  s0 : c.kind.size ≤ 9223372036854775807
  s1 : c.issuer.size ≤ 9223372036854775807
  s2 : c.subject.size ≤ 9223372036854775807
  s3 : c.client.size ≤ 9223372036854775807
  s4 : c.tenant.size ≤ 9223372036854775807
  s5 : c.id.size ≤ 9223372036854775807
  s6 : c.session.size ≤ 9223372036854775807
  s7 : c.nonce.size ≤ 9223372036854775807
  l1 : c.aud.length ≤ p.c1
  l2 : c.sco.length ≤ p.c2
  l3 : c.act.length ≤ p.c3
  m1 : c.aud.length ≤ 9223372036854775807
  m2 : c.sco.length ≤ 9223372036854775807
  m3 : c.act.length ≤ 9223372036854775807
  z1 : ∀ s ∈ c.aud, s.size ≤ 9223372036854775807
  z2 : ∀ s ∈ c.sco, s.size ≤ 9223372036854775807
  z3 : ∀ s ∈ c.act, s.size ≤ 9223372036854775807
  i0 : -9223372036854775808 ≤ c.issued ∧ c.issued ≤ 9223372036854775807
  i1 : -9223372036854775808 ≤ c.nb ∧ c.nb ≤ 9223372036854775807
  i2 : -9223372036854775808 ≤ c.exp ∧ c.exp ≤ 9223372036854775807
  i3 : -9223372036854775808 ≤ c.auth ∧ c.auth ≤ 9223372036854775807
  i4 : -9223372036854775808 ≤ c.level ∧ c.level ≤ 9223372036854775807
end Go.Proofs.YtpmikpijonccjaaGreatDoor

/- The arrays of pointers to the fields of claims. -/
namespace Go.Proofs.YtpmikpijonccjaaGreatDoor
open Go.RowKit

/-- A pointer to a field. -/
def fldP (b k : Nat) : Value := .pointer (some ⟨b, k, none⟩)
def textsV (b : Nat) : Value := .agg #[.pointer (some ⟨b, 0, none⟩), .pointer (some ⟨b, 1, none⟩), .pointer (some ⟨b, 2, none⟩), .pointer (some ⟨b, 3, none⟩), .pointer (some ⟨b, 4, none⟩), .pointer (some ⟨b, 5, none⟩), .pointer (some ⟨b, 6, none⟩), .pointer (some ⟨b, 7, none⟩)]
def listsV (b : Nat) : Value := .agg #[.pointer (some ⟨b, 8, none⟩), .pointer (some ⟨b, 9, none⟩), .pointer (some ⟨b, 10, none⟩)]
def numbersV (b : Nat) : Value := .agg #[.pointer (some ⟨b, 11, none⟩), .pointer (some ⟨b, 12, none⟩), .pointer (some ⟨b, 13, none⟩), .pointer (some ⟨b, 14, none⟩), .pointer (some ⟨b, 15, none⟩)]
set_option maxRecDepth 100000 in
theorem texts_any (b : Nat) (w : World) :
    Calls Tryz.prog 37 #[.pointer (some ⟨b, 0, none⟩)] w fun e w' => e = .returned (textsV b) ∧ Below w.heap.size w w' := by
  go_enter Tryz.func37, Tryz.ntmps37
  go_wp2_with fail
  go_still_tail 25, (by kernel_rfl)
  change wpList _ _ _ _ _ (World.drew (World.alloc w _))
  go_wp2_with fail
  refine bodyPost_ret (v := textsV b) (by simp [results, Tryz.results37, go_sem, textsV]) rfl ⟨rfl, ?_⟩
  exact ((Below.refl _ _).alloc (Nat.le_refl _) _).drew
set_option maxRecDepth 100000 in
theorem lists_any (b : Nat) (w : World) :
    Calls Tryz.prog 38 #[.pointer (some ⟨b, 0, none⟩)] w fun e w' => e = .returned (listsV b) ∧ Below w.heap.size w w' := by
  go_enter Tryz.func38, Tryz.ntmps38
  go_wp2_with fail
  go_still_tail 10, (by kernel_rfl)
  change wpList _ _ _ _ _ (World.drew (World.alloc w _))
  go_wp2_with fail
  refine bodyPost_ret (v := listsV b) (by simp [results, Tryz.results38, go_sem, listsV]) rfl ⟨rfl, ?_⟩
  exact ((Below.refl _ _).alloc (Nat.le_refl _) _).drew
set_option maxRecDepth 100000 in
theorem numbers_any (b : Nat) (w : World) :
    Calls Tryz.prog 40 #[.pointer (some ⟨b, 0, none⟩)] w fun e w' => e = .returned (numbersV b) ∧ Below w.heap.size w w' := by
  go_enter Tryz.func40, Tryz.ntmps40
  go_wp2_with fail
  go_still_tail 16, (by kernel_rfl)
  change wpList _ _ _ _ _ (World.drew (World.alloc w _))
  go_wp2_with fail
  refine bodyPost_ret (v := numbersV b) (by simp [results, Tryz.results40, go_sem, numbersV]) rfl ⟨rfl, ?_⟩
  exact ((Below.refl _ _).alloc (Nat.le_refl _) _).drew
/- What stands at a place of these arrays. -/
theorem idx_texts (b k : Nat) (hk : k < 8) (w : World) : (Instr.index 49 (textsV b) (.int .i64 (k : Int))).run Tryz.prog w = .ok (.pointer (some ⟨b, k, none⟩)) w := by
  rcases k with _|_|_|_|_|_|_|_|k <;> first | omega | kernel_rfl
theorem idx_lists (b k : Nat) (hk : k < 3) (w : World) : (Instr.index 53 (listsV b) (.int .i64 (k : Int))).run Tryz.prog w = .ok (.pointer (some ⟨b, 8 + k, none⟩)) w := by
  rcases k with _|_|_|k <;> first | omega | kernel_rfl
theorem idx_numbers (b k : Nat) (hk : k < 5) (w : World) : (Instr.index 56 (numbersV b) (.int .i64 (k : Int))).run Tryz.prog w = .ok (.pointer (some ⟨b, 11 + k, none⟩)) w := by
  rcases k with _|_|_|_|_|k <;> first | omega | kernel_rfl
/- The fields by number. -/
def strAt (c : Cl) (k : Nat) : ByteArray := [c.kind, c.issuer, c.subject, c.client, c.tenant, c.id, c.session, c.nonce].getD k ⟨#[]⟩
def lstAt (c : Cl) (k : Nat) : List ByteArray := [c.aud, c.sco, c.act].getD k []
def adrAt (p : P3) (k : Nat) : Option Addr := [p.a1, p.a2, p.a3].getD k none
def capAt (p : P3) (k : Nat) : Nat := [p.c1, p.c2, p.c3].getD k 0
def numAt (c : Cl) (k : Nat) : Int := [c.issued, c.nb, c.exp, c.auth, c.level].getD k 0
theorem ClBox.str {w : World} {b : Nat} {c : Cl} {p : P3} (h : ClBox w b c p) (k : Nat) (hk : k < 8) : w.cell? ⟨b, k, none⟩ = some (.string (strAt c k)) := by
  obtain ⟨x0, x1, x2, x3, x4, x5, x6, x7, _⟩ := h.cells
  rcases k with _|_|_|_|_|_|_|_|k <;> first | omega | assumption
theorem ClBox.lst {w : World} {b : Nat} {c : Cl} {p : P3} (h : ClBox w b c p) (k : Nat) (hk : k < 3) : w.cell? ⟨b, 8 + k, none⟩ = some (.slice (adrAt p k) (lstAt c k).length (capAt p k)) := by
  obtain ⟨_, _, _, _, _, _, _, _, x8, x9, x10, _⟩ := h.cells
  rcases k with _|_|_|k <;> first | omega | assumption
theorem ClBox.num {w : World} {b : Nat} {c : Cl} {p : P3} (h : ClBox w b c p) (k : Nat) (hk : k < 5) : w.cell? ⟨b, 11 + k, none⟩ = some (.int .i64 (numAt c k)) := by
  obtain ⟨_, _, _, _, _, _, _, _, _, _, _, x11, x12, x13, x14, x15⟩ := h.cells
  rcases k with _|_|_|_|_|k <;> first | omega | assumption
theorem ClAt.lst {w : World} {c : Cl} {p : P3} (h : ClAt w c p) (k : Nat) (hk : k < 3) : Strs w (adrAt p k) (lstAt c k) := by
  obtain ⟨h1, h2, h3⟩ := h
  rcases k with _|_|_|k <;> first | omega | assumption
theorem ClIn.lst {c : Cl} {p : P3} (h : ClIn c p) (k : Nat) (hk : k < 3) : (lstAt c k).length ≤ capAt p k ∧ (lstAt c k).length ≤ 9223372036854775807 ∧ ∀ s ∈ lstAt c k, s.size ≤ 9223372036854775807 := by
  rcases k with _|_|_|k
  · exact ⟨h.l1, h.m1, h.z1⟩
  · exact ⟨h.l2, h.m2, h.z2⟩
  · exact ⟨h.l3, h.m3, h.z3⟩
  · omega
theorem ClIn.str {c : Cl} {p : P3} (h : ClIn c p) (k : Nat) : (strAt c k).size ≤ 9223372036854775807 := by
  obtain ⟨s0, s1, s2, s3, s4, s5, s6, s7, _⟩ := h
  rcases k with _|_|_|_|_|_|_|_|k <;> first | assumption | (show (0 : Nat) ≤ _; omega)
theorem ClIn.num {c : Cl} {p : P3} (h : ClIn c p) (k : Nat) (hk : k < 5) : -9223372036854775808 ≤ numAt c k ∧ numAt c k ≤ 9223372036854775807 := by
  have i0 := h.i0
  have i1 := h.i1
  have i2 := h.i2
  have i3 := h.i3
  have i4 := h.i4
  rcases k with _|_|_|_|_|k <;> first | assumption | omega
end Go.Proofs.YtpmikpijonccjaaGreatDoor

/- Plain functions for the layer codec: the escaped form. No program in sight. -/
namespace Go.Proofs.YtpmikpijonccjaaGreatDoor
open Go.RowKit

/-- A byte that is written as it is. -/
def plainB (c : UInt8) : Bool := decide (33 ≤ c.toNat ∧ c.toNat ≤ 126 ∧ c.toNat ≠ 37 ∧ c.toNat ≠ 124 ∧ c.toNat ≠ 44 ∧ c.toNat ≠ 61 ∧ c.toNat ≠ 59 ∧ c.toNat ≠ 34)
/-- The digit with a value below 16. -/
def hexU (d : Nat) : UInt8 := if d < 10 then UInt8.ofNat (48 + d) else UInt8.ofNat (55 + d)
/-- The value of a digit. -/
def hexV (c : UInt8) : Option Nat := if 48 ≤ c.toNat ∧ c.toNat ≤ 57 then some (c.toNat - 48) else if 65 ≤ c.toNat ∧ c.toNat ≤ 70 then some (c.toNat - 55) else none
theorem hexV_dig (d : Nat) (h : d < 16) : hexV (hexU d) = some d := by
  have : ∀ d : Fin 16, hexV (hexU d.1) = some d.1 := by decide +kernel
  exact this ⟨d, h⟩
theorem hexU_val {c : UInt8} {d : Nat} (h : hexV c = some d) : hexU d = c ∧ d < 16 := by
  have : ∀ n : Fin 256, ∀ d, hexV (UInt8.ofNat n.1) = some d → hexU d = UInt8.ofNat n.1 ∧ d < 16 := by
    intro n d hd
    have : ∀ n : Fin 256, (match hexV (UInt8.ofNat n.1) with | none => true | some d => decide (hexU d = UInt8.ofNat n.1 ∧ d < 16)) = true := by decide +kernel
    have := this n
    rw [hd] at this
    simpa using this
  have h2 := this ⟨c.toNat, c.toNat_lt⟩ d
  simp at h2
  exact h2 h
theorem plainB_pct : plainB 37 = false := by decide
theorem hexU_plain (d : Nat) (h : d < 16) : plainB (hexU d) = true := by
  have : ∀ d : Fin 16, plainB (hexU d.1) = true := by decide +kernel
  exact this ⟨d, h⟩

/-- A byte, written. -/
def escC (c : UInt8) : List UInt8 := if plainB c then [c] else [37, hexU (c.toNat / 16), hexU (c.toNat % 16)]
def escL : List UInt8 → List UInt8
  | [] => []
  | c :: r => escC c ++ escL r
theorem escL_append (a b : List UInt8) : escL (a ++ b) = escL a ++ escL b := by
  induction a with
  | nil => rfl
  | cons c r ih => simp [escL, ih]
theorem escC_length (c : UInt8) : (escC c).length ≤ 3 := by unfold escC; split <;> simp
theorem escL_length (l : List UInt8) : (escL l).length ≤ 3 * l.length := by
  induction l with
  | nil => simp [escL]
  | cons c r ih => have := escC_length c; simp [escL]; omega
/-- The bytes of a form. State 0: between two bytes; 1: behind a sign of escape; n + 2: behind it and a digit of value n. -/
def unE : List UInt8 → Nat → Option (List UInt8)
  | [], 0 => some []
  | [], _ + 1 => none
  | c :: r, 0 => if plainB c then (unE r 0).map (c :: ·) else if c = 37 then unE r 1 else none
  | c :: r, 1 => (hexV c).bind fun a => unE r (a + 2)
  | c :: r, n + 2 => (hexV c).bind fun b => if plainB (UInt8.ofNat (n * 16 + b)) then none else (unE r 0).map (UInt8.ofNat (n * 16 + b) :: ·)
theorem unE_esc (l : List UInt8) : unE (escL l) 0 = some l := by
  induction l with
  | nil => rfl
  | cons c r ih =>
    have hc := c.toNat_lt
    have e : UInt8.ofNat (c.toNat / 16 * 16 + c.toNat % 16) = c := by
      rw [show c.toNat / 16 * 16 + c.toNat % 16 = c.toNat by omega]; simp
    rw [escL, escC]
    by_cases h : plainB c = true
    · rw [if_pos h]; simp [unE, h, ih]
    · rw [if_neg h]
      show unE (37 :: hexU (c.toNat / 16) :: hexU (c.toNat % 16) :: escL r) 0 = _
      rw [unE, if_neg (by rw [plainB_pct]; simp), if_pos rfl, unE, hexV_dig _ (by omega), Option.bind_some, unE, hexV_dig _ (by omega), Option.bind_some, e, if_neg h, ih]
      rfl
theorem esc_unE (t : List UInt8) : ∀ v, (unE t 0 = some v → escL v = t) ∧ (unE t 1 = some v → escL v = 37 :: t) ∧ (∀ a, a < 16 → unE t (a + 2) = some v → escL v = 37 :: hexU a :: t) := by
  induction t with
  | nil =>
    intro v
    refine ⟨fun h => ?_, fun h => ?_, fun a ha h => ?_⟩
    · simp [unE] at h; subst h; rfl
    · simp [unE] at h
    · simp [unE] at h
  | cons c r ih =>
    intro v
    refine ⟨fun h => ?_, fun h => ?_, fun a ha h => ?_⟩
    · rw [unE] at h
      split at h
      · rename_i hp
        rw [Option.map_eq_some_iff] at h
        obtain ⟨t, h1, rfl⟩ := h
        rw [escL, (ih t).1 h1, escC, if_pos hp]; rfl
      · split at h
        · rename_i h37; rw [(ih v).2.1 h, h37]
        · cases h
    · rw [unE] at h
      cases hc : hexV c with
      | none => rw [hc] at h; cases h
      | some d =>
        rw [hc, Option.bind_some] at h
        obtain ⟨e, hd⟩ := hexU_val hc
        rw [(ih v).2.2 d hd h, e]
    · rw [unE] at h
      cases hc : hexV c with
      | none => rw [hc] at h; cases h
      | some d =>
        rw [hc, Option.bind_some] at h
        obtain ⟨e, hd⟩ := hexU_val hc
        split at h
        · cases h
        · rename_i hp
          rw [Option.map_eq_some_iff] at h
          obtain ⟨t, h1, rfl⟩ := h
          have eb : (UInt8.ofNat (a * 16 + d)).toNat = a * 16 + d := by simp; omega
          rw [escL, (ih t).1 h1, escC, if_neg hp, eb, show (a * 16 + d) / 16 = a by omega, show (a * 16 + d) % 16 = d by omega, e]; rfl
theorem unE_forth {t v : List UInt8} (h : unE t 0 = some v) : escL v = t := (esc_unE t v).1 h
theorem unE_length (t : List UInt8) : ∀ n v, unE t n = some v → v.length ≤ t.length := by
  induction t with
  | nil => intro n v h; cases n with
    | zero => simp [unE] at h; subst h; simp
    | succ n => simp [unE] at h
  | cons c r ih =>
    intro n v h
    rcases n with _ | _ | n
    · rw [unE] at h
      split at h
      · rw [Option.map_eq_some_iff] at h
        obtain ⟨t, h1, rfl⟩ := h
        have := ih _ _ h1; simp; omega
      · split at h
        · have := ih _ _ h; simp; omega
        · cases h
    · rw [unE] at h
      cases hc : hexV c with
      | none => rw [hc] at h; cases h
      | some d => rw [hc, Option.bind_some] at h; have := ih _ _ h; simp; omega
    · rw [unE] at h
      cases hc : hexV c with
      | none => rw [hc] at h; cases h
      | some d =>
        rw [hc, Option.bind_some] at h
        split at h
        · cases h
        · rw [Option.map_eq_some_iff] at h
          obtain ⟨t, h1, rfl⟩ := h
          have := ih _ _ h1; simp; omega

/-- The same without the look at what a digit pair gives: what the reference reads before it compares. -/
def rawE : List UInt8 → Nat → Option (List UInt8)
  | [], 0 => some []
  | [], _ + 1 => none
  | c :: r, 0 => if c = 37 then rawE r 1 else (rawE r 0).map (c :: ·)
  | c :: r, 1 => (hexV c).bind fun a => rawE r (a + 2)
  | c :: r, n + 2 => (hexV c).bind fun b => (rawE r 0).map (UInt8.ofNat (n * 16 + b) :: ·)
theorem raw_of_unE (t : List UInt8) : ∀ n v, unE t n = some v → rawE t n = some v := by
  induction t with
  | nil => intro n v h; cases n with
    | zero => exact h
    | succ n => simp [unE] at h
  | cons c r ih =>
    intro n v h
    rcases n with _ | _ | n
    · rw [unE] at h
      rw [rawE]
      split at h
      · rename_i hp
        have h37 : c ≠ 37 := fun e => by rw [e] at hp; cases hp
        rw [if_neg h37]
        rw [Option.map_eq_some_iff] at h
        obtain ⟨t, h1, rfl⟩ := h
        rw [ih _ _ h1]; rfl
      · split at h
        · rename_i h37; rw [if_pos h37]; exact ih _ _ h
        · cases h
    · rw [unE] at h
      rw [rawE]
      cases hc : hexV c with
      | none => rw [hc] at h; cases h
      | some d => rw [hc, Option.bind_some] at h; exact ih _ _ h
    · rw [unE] at h
      rw [rawE]
      cases hc : hexV c with
      | none => rw [hc] at h; cases h
      | some d =>
        rw [hc, Option.bind_some] at h
        split at h
        · cases h
        · rw [Option.map_eq_some_iff] at h
          obtain ⟨t, h1, rfl⟩ := h
          show (rawE r 0).map _ = _
          rw [ih _ _ h1]; rfl
/-- The reference's way of reading gives the same. -/
theorem raw_same (t : List UInt8) : unE t 0 = (rawE t 0).bind fun v => if escL v = t then some v else none := by
  cases h : unE t 0 with
  | some v => rw [raw_of_unE _ _ _ h, Option.bind_some, if_pos (unE_forth h)]
  | none =>
    cases hr : rawE t 0 with
    | none => rfl
    | some v =>
      rw [Option.bind_some]
      by_cases he : escL v = t
      · have := unE_esc v
        rw [he, h] at this; cases this
      · rw [if_neg he]
/-- The escaped form of a string, and the string with an escaped form. -/
def escS (s : ByteArray) : ByteArray := ⟨(escL s.data.toList).toArray⟩
def unescO (s : ByteArray) : Option ByteArray := (unE s.data.toList 0).map fun l => ⟨l.toArray⟩
theorem unesc_esc (s : ByteArray) : unescO (escS s) = some s := by simp [unescO, escS, unE_esc]
theorem esc_unesc {t s : ByteArray} (h : unescO t = some s) : escS s = t := by
  simp only [unescO, Option.map_eq_some_iff] at h
  obtain ⟨l, h, rfl⟩ := h
  apply ByteArray.ext
  simp [escS, unE_forth h]
theorem escS_append (a b : ByteArray) : escS (a ++ b) = escS a ++ escS b := by
  apply ByteArray.ext
  simp [escS, ByteArray.data_append, escL_append]
theorem escS_inj {a b : ByteArray} (h : escS a = escS b) : a = b := by
  have := unesc_esc a
  rw [h, unesc_esc] at this
  exact (Option.some.inj this).symm
theorem escS_size (s : ByteArray) : (escS s).size ≤ 3 * s.size := by
  have := escL_length s.data.toList
  show (escL s.data.toList).toArray.size ≤ 3 * s.size
  simpa using this
theorem unescO_size {t s : ByteArray} (h : unescO t = some s) : s.size ≤ t.size := by
  simp only [unescO, Option.map_eq_some_iff] at h
  obtain ⟨l, h, rfl⟩ := h
  have := unE_length _ _ _ h
  show l.toArray.size ≤ t.size
  simpa using this
def unescS (s : ByteArray) : ByteArray := (unescO s).getD ByteArray.empty
def unescE (s : ByteArray) : Int := if (unescO s).isSome then 0 else 4
end Go.Proofs.YtpmikpijonccjaaGreatDoor

/- Plain functions for the layer codec: lists and pairs. No program in sight. -/
namespace Go.Proofs.YtpmikpijonccjaaGreatDoor
open Go.RowKit

/-- The pieces of a list of bytes between the bytes c. -/
def cutL (c : UInt8) : List UInt8 → List (List UInt8)
  | [] => [[]]
  | x :: r => if x = c then [] :: cutL c r else match cutL c r with
    | [] => [[x]]
    | p :: ps => (x :: p) :: ps
/-- The pieces with a byte c between them. -/
def joinL (c : UInt8) : List (List UInt8) → List UInt8
  | [] => []
  | [p] => p
  | p :: q :: r => p ++ c :: joinL c (q :: r)
theorem cutL_ne (c : UInt8) (l : List UInt8) : cutL c l ≠ [] := by
  cases l with
  | nil => simp [cutL]
  | cons x r =>
    rw [cutL]
    split
    · simp
    · split <;> simp
theorem joinL_cons (c : UInt8) (p : List UInt8) (ps : List (List UInt8)) (h : ps ≠ []) : joinL c (p :: ps) = p ++ c :: joinL c ps := by
  cases ps with
  | nil => exact absurd rfl h
  | cons q r => rfl
theorem join_cut (c : UInt8) (l : List UInt8) : joinL c (cutL c l) = l := by
  induction l with
  | nil => rfl
  | cons x r ih =>
    rw [cutL]
    split
    · rename_i h; rw [joinL_cons c _ _ (cutL_ne c r), ih, h]; rfl
    · have hne := cutL_ne c r
      cases hc : cutL c r with
      | nil => exact absurd hc hne
      | cons p ps =>
        rw [hc] at ih
        cases ps with
        | nil => simp only [joinL] at ih ⊢; rw [ih]
        | cons q ps => rw [joinL_cons c _ _ (by simp)] at ih ⊢; rw [← ih]; rfl
theorem cutL_nil {c : UInt8} {l : List UInt8} (h : c ∉ l) : cutL c l = [l] := by
  induction l with
  | nil => rfl
  | cons x r ih =>
    rw [cutL, if_neg (fun e => h (by rw [e]; simp)), ih (fun hm => h (List.mem_cons_of_mem _ hm))]
theorem cutL_app {c : UInt8} {p : List UInt8} (h : c ∉ p) (l : List UInt8) : cutL c (p ++ c :: l) = p :: cutL c l := by
  induction p with
  | nil => simp [cutL]
  | cons x r ih =>
    rw [List.cons_append, cutL, if_neg (fun e => h (by rw [e]; simp)), ih (fun hm => h (List.mem_cons_of_mem _ hm))]
theorem cut_join {c : UInt8} : ∀ (ps : List (List UInt8)), ps ≠ [] → (∀ p ∈ ps, c ∉ p) → cutL c (joinL c ps) = ps
  | [], h, _ => absurd rfl h
  | [p], _, h => cutL_nil (h p (by simp))
  | p :: q :: r, _, h => by
    rw [joinL, cutL_app (h p (by simp)), cut_join (q :: r) (by simp) (fun x hx => h x (List.mem_cons_of_mem _ hx))]
theorem cutL_mem (c : UInt8) (l : List UInt8) : ∀ p ∈ cutL c l, c ∉ p := by
  induction l with
  | nil => intro p hp; simp [cutL] at hp; subst hp; simp
  | cons x r ih =>
    intro p hp
    rw [cutL] at hp
    split at hp
    · rw [List.mem_cons] at hp
      rcases hp with rfl | hp
      · simp
      · exact ih p hp
    · rename_i hx
      cases hc : cutL c r with
      | nil => exact absurd hc (cutL_ne c r)
      | cons q qs =>
        rw [hc] at hp ih
        simp only [List.mem_cons] at hp
        rcases hp with rfl | hp
        · intro hm
          rw [List.mem_cons] at hm
          rcases hm with hm | hm
          · exact hx hm.symm
          · exact ih q (by simp) hm
        · exact ih p (List.mem_cons_of_mem _ hp)
theorem escC_nosep (c d : UInt8) (h : plainB d = false) (h37 : d ≠ 37) : d ∉ escC c := by
  unfold escC
  split
  · rename_i hp
    intro hm
    simp at hm
    rw [hm, hp] at h; cases h
  · intro hm
    have hc := c.toNat_lt
    simp only [List.mem_cons, List.not_mem_nil, or_false] at hm
    rcases hm with hm | hm | hm
    · exact h37 hm
    · rw [hm, hexU_plain _ (by omega)] at h; cases h
    · rw [hm, hexU_plain _ (by omega)] at h; cases h
/-- A separator does not occur in an escaped form. -/
theorem escL_nosep (l : List UInt8) (d : UInt8) (h : plainB d = false) (h37 : d ≠ 37) : d ∉ escL l := by
  induction l with
  | nil => simp [escL]
  | cons c r ih =>
    rw [escL, List.mem_append]
    rintro (hm | hm)
    · exact escC_nosep c d h h37 hm
    · exact ih hm

/-- codec.Join on lists of bytes. -/
def joinE (l : List (List UInt8)) : List UInt8 := if l = [] then [45] else if l = [[45]] then [37, 50, 68] else joinL 124 (l.map escL)
/-- All pieces read. -/
def unAll : List (List UInt8) → Option (List (List UInt8))
  | [] => some []
  | p :: ps => (unE p 0).bind fun q => (unAll ps).map (q :: ·)
/-- codec.Split on lists of bytes. -/
def splitE (t : List UInt8) : Option (List (List UInt8)) := if t = [45] then some [] else if t = [37, 50, 68] then some [[45]] else unAll (cutL 124 t)
theorem unAll_esc (l : List (List UInt8)) : unAll (l.map escL) = some l := by
  induction l with
  | nil => rfl
  | cons p ps ih => rw [List.map_cons, unAll, unE_esc, Option.bind_some, ih]; rfl
theorem esc_unAll : ∀ (ps l : List (List UInt8)), unAll ps = some l → l.map escL = ps
  | [], l, h => by simp [unAll] at h; subst h; rfl
  | p :: ps, l, h => by
    rw [unAll] at h
    cases hp : unE p 0 with
    | none => rw [hp] at h; cases h
    | some q =>
      rw [hp, Option.bind_some, Option.map_eq_some_iff] at h
      obtain ⟨r, h1, rfl⟩ := h
      rw [List.map_cons, unE_forth hp, esc_unAll ps r h1]
theorem un_dash : unE [45] 0 = some [45] := by decide
theorem un_2d : unE [37, 50, 68] 0 = none := by decide
theorem split_join (l : List (List UInt8)) : splitE (joinE l) = some l := by
  unfold joinE
  by_cases h0 : l = []
  · rw [if_pos h0, splitE, if_pos rfl, h0]
  · rw [if_neg h0]
    by_cases h1 : l = [[45]]
    · rw [if_pos h1, splitE, if_neg (by decide), if_pos rfl, h1]
    · rw [if_neg h1]
      have hns : ∀ p ∈ l.map escL, (124 : UInt8) ∉ p := by
        intro p hp
        rw [List.mem_map] at hp
        obtain ⟨q, _, rfl⟩ := hp
        exact escL_nosep q 124 (by decide) (by decide)
      have hc : cutL 124 (joinL 124 (l.map escL)) = l.map escL := cut_join _ (by simpa using h0) hns
      have key : ∀ t, joinL 124 (l.map escL) = t → (124 : UInt8) ∉ t → l.map escL = [t] := by
        intro t ht hn
        rw [ht, cutL_nil hn] at hc
        exact hc.symm
      rw [splitE, if_neg, if_neg, hc, unAll_esc]
      · intro h
        have := key _ h (by decide)
        have h2 := unAll_esc l
        rw [this, unAll, un_2d] at h2; cases h2
      · intro h
        have := key _ h (by decide)
        have h2 := unAll_esc l
        rw [this, unAll, un_dash] at h2
        simp [unAll] at h2
        exact h1 h2.symm
theorem join_split (t : List UInt8) (l : List (List UInt8)) (h : splitE t = some l) : joinE l = t := by
  unfold splitE at h
  split at h
  · rename_i ht; cases h; rw [joinE, if_pos rfl, ht]
  · split at h
    · rename_i ht; cases h; rw [joinE, if_neg (by simp), if_pos rfl, ht]
    · rename_i h45 h2d
      have hm := esc_unAll _ _ h
      have hne : l ≠ [] := by
        intro e; rw [e] at hm
        exact cutL_ne 124 t hm.symm
      have h1 : l ≠ [[45]] := by
        intro e
        rw [e] at hm
        have hj := join_cut 124 t
        rw [← hm] at hj
        exact h45 hj.symm
      rw [joinE, if_neg hne, if_neg h1, hm, join_cut]
theorem joinE_inj {a b : List (List UInt8)} (h : joinE a = joinE b) : a = b := by
  have := split_join a
  rw [h, split_join] at this
  exact (Option.some.inj this).symm

/-- A pair, written. -/
def pairE (p : List UInt8 × List UInt8) : List UInt8 := escL p.1 ++ 61 :: escL p.2
/-- codec.Pairs on lists of bytes. -/
def pairsE (l : List (List UInt8 × List UInt8)) : List UInt8 := joinL 124 (l.map pairE)
/-- A pair, read. -/
def unPair (t : List UInt8) : Option (List UInt8 × List UInt8) :=
  if (61 : UInt8) ∈ t then (unE (t.takeWhile (· ≠ 61)) 0).bind fun k => (unE ((t.dropWhile (· ≠ 61)).tail) 0).map fun v => (k, v) else none
def unPairs : List (List UInt8) → Option (List (List UInt8 × List UInt8))
  | [] => some []
  | p :: ps => (unPair p).bind fun q => (unPairs ps).map (q :: ·)
/-- codec.ReadPairs on lists of bytes. -/
def readPairsE (t : List UInt8) : Option (List (List UInt8 × List UInt8)) := if t = [] then some [] else unPairs (cutL 124 t)
theorem take_eq {k v : List UInt8} (h : (61 : UInt8) ∉ k) : (k ++ 61 :: v).takeWhile (· ≠ 61) = k ∧ ((k ++ 61 :: v).dropWhile (· ≠ 61)).tail = v := by
  induction k with
  | nil => simp
  | cons x r ih =>
    have hx : x ≠ 61 := fun e => h (by rw [e]; simp)
    have := ih (fun hm => h (List.mem_cons_of_mem _ hm))
    simpa [hx] using this
theorem mem_parts {t : List UInt8} (h : (61 : UInt8) ∈ t) : t = t.takeWhile (· ≠ 61) ++ 61 :: (t.dropWhile (· ≠ 61)).tail ∧ (61 : UInt8) ∉ t.takeWhile (· ≠ 61) := by
  induction t with
  | nil => simp at h
  | cons x r ih =>
    by_cases hx : x = 61
    · subst hx; simp
    · have hm : (61 : UInt8) ∈ r := by
        rw [List.mem_cons] at h
        rcases h with h | h
        · exact absurd h.symm hx
        · exact h
      obtain ⟨h1, h2⟩ := ih hm
      refine ⟨?_, ?_⟩
      · simpa [hx] using h1
      · simp only [ne_eq, hx, not_false_eq_true, decide_true, List.takeWhile_cons_of_pos, List.mem_cons, not_or]
        exact ⟨fun e => hx e.symm, by simpa using h2⟩
theorem unPair_pair (p : List UInt8 × List UInt8) : unPair (pairE p) = some p := by
  obtain ⟨k, v⟩ := p
  have hk : (61 : UInt8) ∉ escL k := escL_nosep k 61 (by decide) (by decide)
  obtain ⟨h1, h2⟩ := take_eq (v := escL v) hk
  rw [unPair, pairE, if_pos (by simp), h1, h2, unE_esc, unE_esc]; rfl
theorem pair_unPair {t : List UInt8} {p : List UInt8 × List UInt8} (h : unPair t = some p) : pairE p = t := by
  unfold unPair at h
  split at h
  · rename_i hm
    obtain ⟨h1, _⟩ := mem_parts hm
    cases hk : unE (t.takeWhile (· ≠ 61)) 0 with
    | none => rw [hk] at h; cases h
    | some k =>
      rw [hk, Option.bind_some, Option.map_eq_some_iff] at h
      obtain ⟨v, hv, rfl⟩ := h
      rw [pairE, unE_forth hk, unE_forth hv, ← h1]
  · cases h
theorem unPairs_pairs (l : List (List UInt8 × List UInt8)) : unPairs (l.map pairE) = some l := by
  induction l with
  | nil => rfl
  | cons p ps ih => rw [List.map_cons, unPairs, unPair_pair, Option.bind_some, ih]; rfl
theorem pairs_unPairs : ∀ (ps : List (List UInt8)) (l : List (List UInt8 × List UInt8)), unPairs ps = some l → l.map pairE = ps
  | [], l, h => by simp [unPairs] at h; subst h; rfl
  | p :: ps, l, h => by
    rw [unPairs] at h
    cases hp : unPair p with
    | none => rw [hp] at h; cases h
    | some q =>
      rw [hp, Option.bind_some, Option.map_eq_some_iff] at h
      obtain ⟨r, h1, rfl⟩ := h
      rw [List.map_cons, pair_unPair hp, pairs_unPairs ps r h1]
theorem pairE_nosep (p : List UInt8 × List UInt8) : (124 : UInt8) ∉ pairE p := by
  rw [pairE, List.mem_append, List.mem_cons]
  rintro (hm | hm | hm)
  · exact escL_nosep _ 124 (by decide) (by decide) hm
  · cases hm
  · exact escL_nosep _ 124 (by decide) (by decide) hm
theorem pairE_ne (p : List UInt8 × List UInt8) : pairE p ≠ [] := by simp [pairE]
theorem joinL_nil {c : UInt8} {ps : List (List UInt8)} (h : joinL c ps = []) : ps = [] ∨ ps = [[]] := by
  cases ps with
  | nil => exact .inl rfl
  | cons p ps =>
    cases ps with
    | nil => right; simp only [joinL] at h; rw [h]
    | cons q r => simp [joinL] at h
theorem readPairs_pairs (l : List (List UInt8 × List UInt8)) : readPairsE (pairsE l) = some l := by
  unfold readPairsE
  by_cases h0 : l = []
  · subst h0; rfl
  · rw [if_neg, pairsE, cut_join _ (by simpa using h0), unPairs_pairs]
    · intro p hp
      rw [List.mem_map] at hp
      obtain ⟨q, _, rfl⟩ := hp
      exact pairE_nosep q
    · intro h
      rcases joinL_nil h with h | h
      · simp at h; exact h0 h
      · cases l with
        | nil => exact h0 rfl
        | cons p ps => simp at h; exact pairE_ne p h.1
theorem pairs_readPairs (t : List UInt8) (l : List (List UInt8 × List UInt8)) (h : readPairsE t = some l) : pairsE l = t := by
  unfold readPairsE at h
  split at h
  · rename_i ht; cases h; rw [ht]; rfl
  · rw [pairsE, pairs_unPairs _ _ h, join_cut]
end Go.Proofs.YtpmikpijonccjaaGreatDoor

/- The codec's lists, on strings. -/
namespace Go.Proofs.YtpmikpijonccjaaGreatDoor
open Go.RowKit

/-- A string of bytes. -/
def bsOf (l : List UInt8) : ByteArray := ⟨l.toArray⟩
theorem bsOf_list (s : ByteArray) : bsOf s.data.toList = s := by cases s; rfl
theorem list_bsOf (l : List UInt8) : (bsOf l).data.toList = l := rfl
theorem map_bsOf (l : List ByteArray) : (l.map (·.data.toList)).map bsOf = l := by
  induction l with
  | nil => rfl
  | cons a l ih => simp only [List.map_cons, bsOf_list]; rw [ih]
theorem map_list (l : List (List UInt8)) : (l.map bsOf).map (·.data.toList) = l := by
  induction l with
  | nil => rfl
  | cons a l ih => simp only [List.map_cons, list_bsOf]; rw [ih]
/-- The pieces between the bytes c. -/
def cutsL (c : UInt8) (l : List UInt8) : List ByteArray := (cutL c l).map bsOf
def cutsS (s : ByteArray) (c : UInt8) : List ByteArray := cutsL c s.data.toList
/-- Strings with a byte c between them. -/
def joinC (c : UInt8) (l : List ByteArray) : ByteArray := bsOf (joinL c (l.map (·.data.toList)))
/-- The form of a list, and its inverse. -/
def joinS (l : List ByteArray) : ByteArray := bsOf (joinE (l.map (·.data.toList)))
def splitO (s : ByteArray) : Option (List ByteArray) := (splitE s.data.toList).map (List.map bsOf)
def splitS (s : ByteArray) : List ByteArray := (splitO s).getD []
def splitErr (s : ByteArray) : Int := if (splitO s).isSome then 0 else 4
theorem split_joinS (l : List ByteArray) : splitO (joinS l) = some l := by
  simp only [splitO, joinS, list_bsOf, split_join, Option.map_some, map_bsOf]
theorem join_splitS {s : ByteArray} {l : List ByteArray} (h : splitO s = some l) : joinS l = s := by
  simp only [splitO, Option.map_eq_some_iff] at h
  obtain ⟨m, h, rfl⟩ := h
  rw [joinS, map_list, join_split _ _ h, bsOf_list]
theorem joinS_inj {a b : List ByteArray} (h : joinS a = joinS b) : a = b := by
  have := split_joinS a
  rw [h, split_joinS] at this
  exact (Option.some.inj this).symm
theorem extract_list (s : ByteArray) (f k : Nat) : (s.extract f k).data.toList = (s.data.toList.take k).drop f := by
  rw [ByteArray.data_extract, Array.toList_extract, List.extract_eq_take_drop, List.drop_take]
/-- A piece more. -/
theorem cuts_step {s : ByteArray} {c : UInt8} {f k : Nat} {P L : List ByteArray} (hf : f ≤ k) (hk : k < s.size) (hc : s[k] = c) (hn : c ∉ (s.data.toList.take k).drop f) (HP : P ++ cutsL c (s.data.toList.drop f) = L) :
    (P ++ [s.extract f k]) ++ cutsL c (s.data.toList.drop (k + 1)) = L := by
  have hl : k < s.data.toList.length := by simpa using hk
  have e : s.data.toList.drop f = (s.data.toList.take k).drop f ++ c :: s.data.toList.drop (k + 1) := by
    have h1 : s.data.toList = s.data.toList.take k ++ s.data.toList.drop k := (List.take_append_drop k _).symm
    have h2 : s.data.toList.drop k = c :: s.data.toList.drop (k + 1) := by
      rw [List.drop_eq_getElem_cons hl, ← hc]; rfl
    rw [h2] at h1
    conv => lhs; rw [h1]
    rw [List.drop_append_of_le_length (by simp; omega)]
  rw [e, cutsL, cutL_app hn, List.map_cons] at HP
  have e2 : bsOf ((s.data.toList.take k).drop f) = s.extract f k := by rw [← extract_list, bsOf_list]
  rw [e2] at HP
  rw [List.append_assoc]
  exact HP
theorem cuts_next {s : ByteArray} {c : UInt8} {f k : Nat} (hf : f ≤ k) (hk : k < s.size) (hc : s[k] ≠ c) (hn : c ∉ (s.data.toList.take k).drop f) : c ∉ (s.data.toList.take (k + 1)).drop f := by
  have hl : k < s.data.toList.length := by simpa using hk
  rw [List.take_succ_eq_append_getElem hl, List.drop_append_of_le_length (by simp; omega)]
  intro h
  rw [List.mem_append] at h
  rcases h with h | h
  · exact hn h
  · rw [List.mem_singleton] at h; exact hc h.symm
theorem cuts_end {s : ByteArray} {c : UInt8} {f k : Nat} {P L : List ByteArray} (hk : ¬ k < s.size) (hn : c ∉ (s.data.toList.take k).drop f) (HP : P ++ cutsL c (s.data.toList.drop f) = L) : P ++ [s.extract f s.size] = L := by
  have hs : s.data.toList.length = s.size := by simp
  have e2 : bsOf (s.data.toList.drop f) = s.extract f s.size := by
    rw [← bsOf_list (s.extract f s.size), extract_list, List.take_of_length_le (by omega)]
  rw [List.take_of_length_le (by omega)] at hn
  rw [cutsL, cutL_nil hn, List.map_cons, e2] at HP
  exact HP
end Go.Proofs.YtpmikpijonccjaaGreatDoor

/- Plain: lines of keys and values, as the program cuts them and as the reference reads them. -/
namespace Go.Proofs.YtpmikpijonccjaaGreatDoor
open Go.RowKit

/-- A line: key, '=', value, line feed. -/
def lineL (k v : ByteArray) : List UInt8 := k.data.toList ++ 61 :: (v.data.toList ++ [10])
def linesL : List ByteArray → List ByteArray → List UInt8
  | k :: ks, v :: vs => lineL k v ++ linesL ks vs
  | _, _ => []
theorem lines_take : ∀ (ks vs : List ByteArray) (i : Nat) (h1 : i < ks.length) (h2 : i < vs.length), linesL (ks.take (i + 1)) (vs.take (i + 1)) = linesL (ks.take i) (vs.take i) ++ lineL ks[i] vs[i]
  | [], _, _, h1, _ => absurd h1 (by simp)
  | _ :: _, [], _, _, h2 => absurd h2 (by simp)
  | k :: ks, v :: vs, 0, _, _ => by simp [linesL]
  | k :: ks, v :: vs, i + 1, h1, h2 => by
    have := lines_take ks vs i (by simpa using h1) (by simpa using h2)
    rw [List.take_succ_cons, List.take_succ_cons, List.take_succ_cons, List.take_succ_cons, linesL, linesL, this]
    simp
theorem lineL_len (k v : ByteArray) : (lineL k v).length = k.size + v.size + 2 := by
  have e : k.data.toList.length = k.size := by simp
  have e2 : v.data.toList.length = v.size := by simp
  rw [lineL, List.length_append, List.length_cons, List.length_append, e, e2]; simp; omega
theorem lines_len (M : Nat) : ∀ (ks vs : List ByteArray), (∀ k ∈ ks, k.size ≤ M) → (∀ v ∈ vs, v.size ≤ M) → (linesL ks vs).length ≤ ks.length * (2 * M + 2)
  | [], vs, _, _ => by simp [linesL]
  | k :: ks, [], _, _ => by simp [linesL]
  | k :: ks, v :: vs, h1, h2 => by
    have a := lines_len M ks vs (fun x hx => h1 x (by simp [hx])) (fun x hx => h2 x (by simp [hx]))
    have b := h1 k (by simp)
    have c := h2 v (by simp)
    rw [linesL, List.length_append, lineL_len, List.length_cons, Nat.succ_mul]; omega
/-- Each value is no longer than the lines. -/
theorem lines_ge : ∀ (ks vs : List ByteArray), vs.length ≤ ks.length → ∀ v ∈ vs, v.size ≤ (linesL ks vs).length
  | _, [], _, v, hv => by simp at hv
  | [], v :: vs, h, _, _ => by simp at h
  | k :: ks, x :: vs, h, v, hv => by
    rw [linesL, List.length_append, lineL_len]
    rcases List.mem_cons.1 hv with rfl | hv
    · omega
    · have := lines_ge ks vs (by simpa using h) v hv; omega
/-- What the program cuts at line feeds. -/
theorem cut_lines : ∀ (ks vs : List ByteArray), ks.length = vs.length → (∀ k ∈ ks, (10 : UInt8) ∉ k.data.toList) → (∀ v ∈ vs, (10 : UInt8) ∉ v.data.toList) →
    cutL 10 (linesL ks vs) = List.zipWith (fun (k v : ByteArray) => k.data.toList ++ 61 :: v.data.toList) ks vs ++ [[]]
  | [], [], _, _, _ => by simp [linesL, cutL_nil]
  | [], _ :: _, h, _, _ => by simp at h
  | _ :: _, [], h, _, _ => by simp at h
  | k :: ks, v :: vs, h, h1, h2 => by
    have e : linesL (k :: ks) (v :: vs) = (k.data.toList ++ 61 :: v.data.toList) ++ 10 :: linesL ks vs := by simp [linesL, lineL]
    rw [e, cutL_app, cut_lines ks vs (by simpa using h) (fun x hx => h1 x (by simp [hx])) (fun x hx => h2 x (by simp [hx]))]
    · simp
    · have a := h1 k (by simp)
      have b := h2 v (by simp)
      simp only [List.mem_append, List.mem_cons, not_or]
      exact ⟨a, by decide, b⟩
theorem trim_app (p v : List UInt8) : Lib.trimPrefix (p ++ v) p = v := by
  rw [Lib.trimPrefix]
  have : Lib.hasPrefix (p ++ v) p = true := by
    rw [Lib.hasPrefix]
    simp
  rw [if_pos this]
  simp
/-- The key with '='. -/
def keyE (k : ByteArray) : ByteArray := k ++ ⟨#[61]⟩
theorem keyE_list (k : ByteArray) : (keyE k).data.toList = k.data.toList ++ [61] := by simp [keyE]
/-- What the program reads as the value of a line. -/
def valP (k l : ByteArray) : ByteArray := bsOf (Lib.trimPrefix l.data.toList (keyE k).data.toList)
theorem valP_line (k v : ByteArray) : valP k (bsOf (k.data.toList ++ 61 :: v.data.toList)) = v := by
  rw [valP, list_bsOf, keyE_list, show k.data.toList ++ 61 :: v.data.toList = (k.data.toList ++ [61]) ++ v.data.toList by simp, trim_app, bsOf_list]
theorem valP_size (k l : ByteArray) : (valP k l).size ≤ l.size := by
  show (Lib.trimPrefix l.data.toList (keyE k).data.toList).toArray.size ≤ _
  rw [Lib.trimPrefix]
  have e : l.data.toList.length = l.size := by simp
  split
  · simp
  · simp
theorem cuts_lines (ks vs : List ByteArray) (s : ByteArray) (hs : s.data.toList = linesL ks vs) (h : ks.length = vs.length) (h1 : ∀ k ∈ ks, (10 : UInt8) ∉ k.data.toList) (h2 : ∀ v ∈ vs, (10 : UInt8) ∉ v.data.toList) :
    (cutsS s 10).length = ks.length + 1 ∧ ∀ i, (hi : i < ks.length) → (hj : i < vs.length) → (hc : i < (cutsS s 10).length) → valP ks[i] (cutsS s 10)[i] = vs[i] := by
  have e : cutsS s 10 = (List.zipWith (fun (k v : ByteArray) => k.data.toList ++ 61 :: v.data.toList) ks vs ++ [[]]).map bsOf := by
    rw [cutsS, cutsL, hs, cut_lines ks vs h h1 h2]
  refine ⟨by rw [e]; simp; omega, fun i hi hj hc => ?_⟩
  have : (cutsS s 10)[i] = bsOf (ks[i].data.toList ++ 61 :: vs[i].data.toList) := by
    rw [List.getElem_of_eq e hc, List.getElem_map, List.getElem_append_left (by simp; omega), List.getElem_zipWith]
  rw [this, valP_line]
/-- How the reference reads lines. -/
def splR : List ByteArray → List UInt8 → Option (List ByteArray)
  | [], t => if t = [] then some [] else none
  | k :: ks, t =>
    if (10 : UInt8) ∈ t ∧ (k.data.toList ++ [61]).isPrefixOf (t.takeWhile (· ≠ 10)) = true then
      (splR ks (t.dropWhile (· ≠ 10)).tail).map (bsOf ((t.takeWhile (· ≠ 10)).drop (k.size + 1)) :: ·)
    else none
theorem take_nl {p l : List UInt8} (h : (10 : UInt8) ∉ p) : (p ++ 10 :: l).takeWhile (· ≠ 10) = p ∧ ((p ++ 10 :: l).dropWhile (· ≠ 10)).tail = l := by
  induction p with
  | nil => simp
  | cons c r ih =>
    have hc : c ≠ 10 := fun e => h (by simp [e])
    obtain ⟨a, b⟩ := ih (fun hm => h (by simp [hm]))
    rw [List.cons_append, List.takeWhile_cons_of_pos (by simpa using hc), List.dropWhile_cons_of_pos (by simpa using hc)]
    exact ⟨by rw [a], b⟩
theorem spl_lines : ∀ (ks vs : List ByteArray), ks.length = vs.length → (∀ k ∈ ks, (10 : UInt8) ∉ k.data.toList) → (∀ v ∈ vs, (10 : UInt8) ∉ v.data.toList) → splR ks (linesL ks vs) = some vs
  | [], [], _, _, _ => by simp [linesL, splR]
  | [], _ :: _, h, _, _ => by simp at h
  | _ :: _, [], h, _, _ => by simp at h
  | k :: ks, v :: vs, h, h1, h2 => by
    have ih := spl_lines ks vs (by simpa using h) (fun x hx => h1 x (by simp [hx])) (fun x hx => h2 x (by simp [hx]))
    have e : linesL (k :: ks) (v :: vs) = (k.data.toList ++ 61 :: v.data.toList) ++ 10 :: linesL ks vs := by simp [linesL, lineL]
    have hn : (10 : UInt8) ∉ k.data.toList ++ 61 :: v.data.toList := by
      have a := h1 k (by simp)
      have b := h2 v (by simp)
      simp only [List.mem_append, List.mem_cons, not_or]
      exact ⟨a, by decide, b⟩
    obtain ⟨t1, t2⟩ := take_nl (l := linesL ks vs) hn
    rw [e, splR, t1, t2, ih, if_pos]
    · rw [Option.map_some]
      congr 2
      rw [show k.data.toList ++ 61 :: v.data.toList = (k.data.toList ++ [61]) ++ v.data.toList by simp]
      rw [List.drop_left' (by simp), bsOf_list]
    · refine ⟨by simp, ?_⟩
      rw [List.isPrefixOf_iff_prefix]
      exact ⟨v.data.toList, by simp⟩
theorem spl_len : ∀ (ks : List ByteArray) (t : List UInt8) (vs : List ByteArray), splR ks t = some vs → vs.length = ks.length ∧ ∀ v ∈ vs, v.size ≤ t.length
  | [], t, vs, h => by
    rw [splR] at h
    split at h
    · cases h; exact ⟨rfl, by simp⟩
    · cases h
  | k :: ks, t, vs, h => by
    rw [splR] at h
    split at h
    · cases hs : splR ks (t.dropWhile (· ≠ 10)).tail with
      | none => rw [hs] at h; cases h
      | some us =>
        rw [hs, Option.map_some] at h
        cases h
        obtain ⟨a, b⟩ := spl_len ks _ us hs
        refine ⟨by simp [a], fun v hv => ?_⟩
        rcases List.mem_cons.1 hv with rfl | hv
        · show (List.drop _ _).toArray.size ≤ _
          have := (List.takeWhile_prefix (l := t) (fun x : UInt8 => decide (x ≠ 10))).length_le
          simp only [List.size_toArray, List.length_drop]
          omega
        · have c := b v hv
          have d := (List.dropWhile_suffix (l := t) (fun x : UInt8 => decide (x ≠ 10))).length_le
          rw [List.length_tail] at c
          omega
    · cases h
end Go.Proofs.YtpmikpijonccjaaGreatDoor

/- The place of a byte in a string. Plain. -/
namespace Go.Proofs.YtpmikpijonccjaaGreatDoor
open Go.RowKit

/-- The place of the first byte c. -/
def cutI (s : ByteArray) (c : UInt8) : Int := Lib.indexByte s.data.toList c
theorem indexByte_lt (l : List UInt8) (c : UInt8) : Lib.indexByte l c < l.length := by
  induction l with
  | nil => simp [Lib.indexByte]
  | cons b r ih =>
    unfold Lib.indexByte
    split
    · simp
    · split
      · simp; omega
      · simp; omega
theorem cutI_lt (s : ByteArray) (c : UInt8) : cutI s c < s.size := by
  have := indexByte_lt s.data.toList c
  simpa [cutI] using this
theorem indexByte_eq (l : List UInt8) (c : UInt8) : ∀ i : Nat, Lib.indexByte l c = i ↔ (c ∉ l.take i ∧ l[i]? = some c) := by
  induction l with
  | nil => intro i; simp [Lib.indexByte]
  | cons b r ih =>
    intro i
    have hg := Lib.indexByte_ge r c
    unfold Lib.indexByte
    by_cases hb : b = c
    · subst hb
      cases i with
      | zero => simp
      | succ i => simp; omega
    · have hb' : (b == c) = false := by simpa using hb
      rw [hb']
      cases i with
      | zero =>
        simp only [Bool.false_eq_true, if_false, List.take_zero, List.not_mem_nil, not_false_eq_true, true_and, List.getElem?_cons_zero, Option.some.injEq, hb, iff_false]
        by_cases hr : Lib.indexByte r c = -1
        · simp [hr]
        · simp [hr]; omega
      | succ i =>
        have := ih i
        simp only [Bool.false_eq_true, if_false, List.take_succ_cons, List.mem_cons, not_or, List.getElem?_cons_succ, Ne.symm hb, not_false_eq_true, true_and]
        have hbc : ¬ c = b := fun e => hb e.symm
        rw [← this]
        by_cases hr : Lib.indexByte r c = -1
        · simp [hr]; omega
        · simp [hr]
theorem cutI_eq (s : ByteArray) (c : UInt8) (i : Nat) : cutI s c = i ↔ (c ∉ s.data.toList.take i ∧ s.data.toList[i]? = some c) := indexByte_eq _ c i
theorem ext_front (s : ByteArray) (i : Nat) : (s.extract 0 i).data.toList = s.data.toList.take i := by
  simp [ByteArray.data_extract]
theorem ext_back (s : ByteArray) (i : Nat) : (s.extract i s.size).data.toList = s.data.toList.drop i := Lib.extract_to_end s i
/-- What stands round a byte. -/
theorem split_at (s : ByteArray) (c : UInt8) (i : Nat) (h : s.data.toList[i]? = some c) : s.extract 0 i ++ ⟨#[c]⟩ ++ s.extract (i + 1) s.size = s := by
  apply ByteArray.ext
  apply Array.toList_inj.1
  rw [ByteArray.data_append, ByteArray.data_append, Array.toList_append, Array.toList_append, ext_front, ext_back]
  obtain ⟨hi, he⟩ := List.getElem?_eq_some_iff.1 h
  have : s.data.toList = s.data.toList.take i ++ s.data.toList.drop i := (List.take_append_drop i _).symm
  conv => rhs; rw [this, List.drop_eq_getElem_cons hi, he]
  simp
end Go.Proofs.YtpmikpijonccjaaGreatDoor

/- Plain: the pieces of a string, by the first place of the separator. -/
namespace Go.Proofs.YtpmikpijonccjaaGreatDoor
open Go.RowKit

theorem cutL_len (c : UInt8) (l : List UInt8) : (cutL c l).length = l.count c + 1 := by
  induction l with
  | nil => rfl
  | cons a l ih =>
    rw [cutL]
    by_cases h : a = c
    · subst h; simp [ih]
    · simp only [if_neg h]
      cases hc : cutL c l with
      | nil => exact absurd hc (cutL_ne c l)
      | cons p ps => rw [hc] at ih; simp [h]; simpa using ih
theorem cutsL_len (c : UInt8) (l : List UInt8) : (cutsL c l).length = l.count c + 1 := by rw [cutsL, List.length_map, cutL_len]
theorem cutsS_len (s : ByteArray) (c : UInt8) : (cutsS s c).length = s.data.toList.count c + 1 := cutsL_len c _
theorem cutsS_le (s : ByteArray) (c : UInt8) : (cutsS s c).length ≤ s.size + 1 := by
  rw [cutsS_len]
  have := @List.count_le_length _ _ c s.data.toList
  have : s.data.toList.length = s.size := by simp
  omega
theorem mem_idx {s : ByteArray} {c : UInt8} (h : 2 ≤ (cutsS s c).length) : ∃ i : Nat, cutI s c = i := by
  rw [cutsS_len] at h
  have hm : c ∈ s.data.toList := List.count_pos_iff.1 (by omega)
  have hg := Lib.indexByte_ge s.data.toList c
  refine Int.eq_ofNat_of_zero_le ?_
  by_cases h0 : 0 ≤ cutI s c
  · exact h0
  · exfalso
    have e : Lib.indexByte s.data.toList c = -1 := by have : cutI s c = Lib.indexByte s.data.toList c := rfl; omega
    obtain ⟨k, hk⟩ := List.mem_iff_getElem?.1 hm
    exact Lib.indexByte_none e k hk
theorem cutsS_hit {s : ByteArray} {c : UInt8} {i : Nat} (h : cutI s c = i) : cutsS s c = s.extract 0 i :: cutsS (s.extract (i + 1) s.size) c := by
  obtain ⟨h1, h2⟩ := (cutI_eq s c i).1 h
  have hl : i < s.data.toList.length := (List.getElem?_eq_some_iff.1 h2).1
  have e : s.data.toList = s.data.toList.take i ++ c :: s.data.toList.drop (i + 1) := by
    have h3 : s.data.toList.drop i = c :: s.data.toList.drop (i + 1) := by
      rw [List.drop_eq_getElem_cons hl]
      rw [List.getElem?_eq_getElem hl] at h2
      rw [Option.some.inj h2]
    conv => lhs; rw [← List.take_append_drop i s.data.toList, h3]
  rw [cutsS, e, cutsL, cutL_app h1, List.map_cons, cutsS, cutsL, ext_back, ← ext_front, bsOf_list]
theorem cutsS_miss {s : ByteArray} {c : UInt8} (h : (cutsS s c).length = 1) : cutsS s c = [s] := by
  rw [cutsS_len] at h
  have hm : c ∉ s.data.toList := List.count_eq_zero.1 (by omega)
  rw [cutsS, cutsL, cutL_nil hm, List.map_cons, List.map_nil, bsOf_list]
end Go.Proofs.YtpmikpijonccjaaGreatDoor

