/- The digest of strings that differ in one byte: each step of Sum is injective. Plain arithmetic. -/
import Derived.Test.YtkhdhelhkokdcaaDoorDigPlain
namespace Go.Proofs.YtkhdhelhkokdcaaDoor
open Go.RowKit

def xsN (x : Nat) : Nat := x ^^^ x / 8589934592
theorem xsN_lt {x : Nat} (h : x < 18446744073709551616) : xsN x < 18446744073709551616 :=
  Nat.xor_lt_two_pow (n := 64) h (Nat.lt_of_le_of_lt (Nat.div_le_self _ _) h)
theorem xsN_inv {x : Nat} (h : x < 18446744073709551616) : xsN (xsN x) = x := by
  have e : ∀ y : Nat, y / 8589934592 = y >>> 33 := fun y => by rw [Nat.shiftRight_eq_div_pow]
  have z : x >>> 33 >>> 33 = 0 := by
    rw [← Nat.shiftRight_add, Nat.shiftRight_eq_div_pow]
    exact Nat.div_eq_of_lt (Nat.lt_of_lt_of_le h (by decide))
  unfold xsN
  rw [e, e, Nat.shiftRight_xor_distrib, z, Nat.xor_zero, Nat.xor_assoc, Nat.xor_self, Nat.xor_zero]
theorem xsN_inj {x y : Nat} (hx : x < 18446744073709551616) (hy : y < 18446744073709551616) (h : xsN x = xsN y) : x = y := by
  rw [← xsN_inv hx, h, xsN_inv hy]
theorem mul_inj {C D x y : Nat} (hCD : C * D % 18446744073709551616 = 1) (hx : x < 18446744073709551616) (hy : y < 18446744073709551616) (h : x * C % 18446744073709551616 = y * C % 18446744073709551616) : x = y := by
  have k : ∀ z : Nat, z < 18446744073709551616 → z * C % 18446744073709551616 * D % 18446744073709551616 = z := by
    intro z hz
    rw [Nat.mod_mul_mod, Nat.mul_assoc, Nat.mul_mod, hCD, Nat.mul_one, Nat.mod_mod, Nat.mod_eq_of_lt hz]
  rw [← k x hx, h, k y hy]
theorem xor_inj {x y c : Nat} (h : x ^^^ c = y ^^^ c) : x = y := by
  have := congrArg (· ^^^ c) h
  simpa [Nat.xor_assoc] using this
def stepN (h c : Nat) : Nat := (h ^^^ c) * 1099511628211 % 18446744073709551616
theorem stepN_lt (h c : Nat) : stepN h c < 18446744073709551616 := Nat.mod_lt _ (by decide)
theorem step_eq (h : Nat) (hh : h < 18446744073709551616) (c : UInt8) : sumStep (h : Int) c = (stepN h c.toNat : Int) := by
  have hc := c.toNat_lt
  have e : IntKind.u64.wrap (c.toNat : Int) = (c.toNat : Int) := by rw [IntKind.wrap_u64]; omega
  unfold sumStep
  rw [e, bits_xor_u64_nat _ _ hh (by omega), IntKind.wrap_u64]
  unfold stepN
  omega
theorem stepN_inj_h {h h' c : Nat} (a : h < 18446744073709551616) (b : h' < 18446744073709551616) (hc : c < 256) (e : stepN h c = stepN h' c) : h = h' :=
  xor_inj (mul_inj (D := 14886173955864302971) (by decide) (Nat.xor_lt_two_pow (n := 64) a (by omega)) (Nat.xor_lt_two_pow (n := 64) b (by omega)) e)
theorem stepN_inj_c {h c c' : Nat} (a : h < 18446744073709551616) (hc : c < 256) (hc' : c' < 256) (e : stepN h c = stepN h c') : c = c' := by
  have := mul_inj (D := 14886173955864302971) (by decide) (Nat.xor_lt_two_pow (n := 64) a (by omega)) (Nat.xor_lt_two_pow (n := 64) a (by omega)) e
  rw [Nat.xor_comm h c, Nat.xor_comm h c'] at this
  exact xor_inj this
def runN (h : Nat) (l : List UInt8) : Nat := l.foldl (fun h c => stepN h c.toNat) h
theorem runN_lt (l : List UInt8) : ∀ {h : Nat}, h < 18446744073709551616 → runN h l < 18446744073709551616 := by
  induction l with
  | nil => intro h hh; exact hh
  | cons c l ih => intro h _; exact ih (stepN_lt h c.toNat)
theorem run_eq (l : List UInt8) : ∀ (h : Nat), h < 18446744073709551616 → l.foldl sumStep (h : Int) = (runN h l : Int) := by
  induction l with
  | nil => intro h _; rfl
  | cons c l ih =>
    intro h hh
    rw [List.foldl_cons, step_eq h hh c, ih _ (stepN_lt h c.toNat)]
    rfl
theorem runN_inj (l : List UInt8) : ∀ {h h' : Nat}, h < 18446744073709551616 → h' < 18446744073709551616 → runN h l = runN h' l → h = h' := by
  induction l with
  | nil => intro h h' _ _ e; exact e
  | cons c l ih =>
    intro h h' a b e
    exact stepN_inj_h a b c.toNat_lt (ih (stepN_lt _ _) (stepN_lt _ _) e)
def mixN (z : Nat) : Nat := xsN (xsN (xsN z * 18397679294719823053 % 18446744073709551616) * 14181476777654086739 % 18446744073709551616)
theorem mix_aux (z u v : Int) (h1 : IntKind.u64.wrap (bits BinOp.xor IntKind.u64 z (z / 8589934592) * 18397679294719823053) = u) (h2 : IntKind.u64.wrap (bits BinOp.xor IntKind.u64 u (u / 8589934592) * 14181476777654086739) = v) :
    sumMix z = bits BinOp.xor IntKind.u64 v (v / 8589934592) := by
  unfold sumMix
  rw [h1, h2]
theorem mix_eq (z : Nat) (hz : z < 18446744073709551616) : sumMix (z : Int) = (mixN z : Int) :=
  (mix_aux _ _ _ (mixStep_u64 z 8589934592 18397679294719823053 hz) (mixStep_u64 _ 8589934592 14181476777654086739 (Nat.mod_lt _ (by decide)))).trans (xorShift_u64 _ 8589934592 (Nat.mod_lt _ (by decide)))
theorem mixN_inj {x y : Nat} (hx : x < 18446744073709551616) (hy : y < 18446744073709551616) (h : mixN x = mixN y) : x = y := by
  have l : ∀ z : Nat, z % 18446744073709551616 < 18446744073709551616 := fun z => Nat.mod_lt _ (by decide)
  have h1 := xsN_inj (l _) (l _) h
  have h2 := mul_inj (D := 11291846944257947611) (by decide) (xsN_lt (l _)) (xsN_lt (l _)) h1
  have h3 := xsN_inj (l _) (l _) h2
  have h4 := mul_inj (D := 5725274745694666757) (by decide) (xsN_lt hx) (xsN_lt hy) h3
  exact xsN_inj hx hy h4
/-- STRINGS THAT DIFFER IN ONE BYTE HAVE DIFFERENT DIGESTS. -/
theorem sum_one (p q : List UInt8) (a b : UInt8) (h : sumMix (sumRun (p ++ a :: q)) = sumMix (sumRun (p ++ b :: q))) : a = b := by
  have h0 : (14695981039346656037 : Nat) < 18446744073709551616 := by decide
  have e : ∀ l : List UInt8, sumRun l = ((runN 14695981039346656037 l : Nat) : Int) := fun l => run_eq l _ h0
  rw [e, e, mix_eq _ (runN_lt _ h0), mix_eq _ (runN_lt _ h0)] at h
  have h1 := mixN_inj (runN_lt _ h0) (runN_lt _ h0) (Int.ofNat.inj h)
  have r : ∀ c : UInt8, runN 14695981039346656037 (p ++ c :: q) = runN (stepN (runN 14695981039346656037 p) c.toNat) q := fun c => by
    unfold runN; rw [List.foldl_append]; rfl
  rw [r, r] at h1
  have h2 := runN_inj q (stepN_lt _ _) (stepN_lt _ _) h1
  exact UInt8.toNat_inj.1 (stepN_inj_c (runN_lt _ h0) a.toNat_lt b.toNat_lt h2)
end Go.Proofs.YtkhdhelhkokdcaaDoor
