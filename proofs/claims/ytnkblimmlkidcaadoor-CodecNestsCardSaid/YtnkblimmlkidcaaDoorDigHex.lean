/- digest.Hex and identityref03.Hex compute hexS. -/
import Derived.Test.YtnkblimmlkidcaaDoorProg
import Derived.Test.YtnkblimmlkidcaaDoorDigPlain
import Derived.Test.YtnkblimmlkidcaaDoorKit
import Derived.WalkKit
import Derived.Lib.Hide
import Derived.WalkSpells
import Derived.WalkLawsBesides
namespace Go.Proofs.YtnkblimmlkidcaaDoor
open Go.RowKit

/-- The package's table of digits, as its block holds it. -/
def digCells : Array Value := #[.int .u8 48, .int .u8 49, .int .u8 50, .int .u8 51, .int .u8 52, .int .u8 53, .int .u8 54, .int .u8 55, .int .u8 56, .int .u8 57, .int .u8 97, .int .u8 98, .int .u8 99, .int .u8 100, .int .u8 101, .int .u8 102]
theorem digCells_at (k : Nat) (h : k < 16) : digCells[k]? = some (.int .u8 ((hexDig k).toNat : Int)) := by
  rcases k with _|_|_|_|_|_|_|_|_|_|_|_|_|_|_|_|k <;> first | omega | rfl
theorem hexS_lit (n : Int) : hexS n = ⟨#[hexDig (n / 1152921504606846976 % 16).toNat, hexDig (n / 72057594037927936 % 16).toNat, hexDig (n / 4503599627370496 % 16).toNat, hexDig (n / 281474976710656 % 16).toNat, hexDig (n / 17592186044416 % 16).toNat, hexDig (n / 1099511627776 % 16).toNat, hexDig (n / 68719476736 % 16).toNat, hexDig (n / 4294967296 % 16).toNat, hexDig (n / 268435456 % 16).toNat, hexDig (n / 16777216 % 16).toNat, hexDig (n / 1048576 % 16).toNat, hexDig (n / 65536 % 16).toNat, hexDig (n / 4096 % 16).toNat, hexDig (n / 256 % 16).toNat, hexDig (n / 16 % 16).toNat, hexDig (n % 16).toNat]⟩ := by
  simp [hexS, hexTail]
end Go.Proofs.YtnkblimmlkidcaaDoor
