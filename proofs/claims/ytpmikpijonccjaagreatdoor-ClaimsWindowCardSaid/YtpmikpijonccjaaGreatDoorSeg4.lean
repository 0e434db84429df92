/- Joined: ClmOps, ClmLineW, ClmLaid, ClmHas. -/
import Derived.Test.YtpmikpijonccjaaGreatDoorSeg1
import Derived.Test.YtpmikpijonccjaaGreatDoorSeg3
import Derived.Laws.Rows
import Derived.Laws.Tables
import Derived.Laws.ResultCell
import Derived.Laws.NewBlocks
import Derived.Test.YtpmikpijonccjaaGreatDoorSeg2
import Derived.Test.YtpmikpijonccjaaGreatDoorRows
import Derived.LaidLaws
import Derived.Lay
/- Claims by value: boxed, loaded and stored whole. -/
namespace Go.Proofs.YtpmikpijonccjaaGreatDoor
open Go.RowKit

/-- The cells of claims. -/
def clA (c : Cl) (p : P3) : Array Value := #[.string c.kind, .string c.issuer, .string c.subject, .string c.client, .string c.tenant, .string c.id, .string c.session, .string c.nonce, .slice p.a1 c.aud.length p.c1, .slice p.a2 c.sco.length p.c2, .slice p.a3 c.act.length p.c3, .int .i64 c.issued, .int .i64 c.nb, .int .i64 c.exp, .int .i64 c.auth, .int .i64 c.level]
theorem clV_eq (c : Cl) (p : P3) : clV c p = .agg (clA c p) := rfl
theorem clO_eq (c : Cl) (p : P3) : clO c p = .cells (clA c p) 24 (0, 0) := rfl
theorem clA_size (c : Cl) (p : P3) : (clA c p).size = 16 := rfl
theorem cl_size : (Tryz.prog.info? 24).map (·.size) = some 16 := by kernel_rfl
theorem clA_one (c : Cl) (p : P3) : (clA c p).all (·.oneCell') = true := by simp [clA, Value.oneCell']
theorem cl_built : Tryz.prog.built 24 [] = some (clA cl0 p30) := by kernel_rfl
section
variable {ops : Array Oper} {rest : List Oper} {o : Oper} {a : Act} {w : World} {Q : Exit → Act → World → Prop}
theorem box_cl (hg : o.guard = none) (t : TypeId) (ht : t = 24) (x : Operand) (ho : o.op = .box t x) (c : Cl) (p : P3) (hx : a.eval x = clV c p)
    (h : wpList Tryz.prog ops Q rest (a.put o.dst (.pointer (some ⟨w.heap.size, 0, none⟩))) (w.alloc (clO c p))) : wpList Tryz.prog ops Q (o :: rest) a w := by
  subst ht
  refine wpList_plain hg fun K hK => ?_
  unfold Oper.wp execOp
  simp only [ho, hx, Sem.run_bind, Instr.box, newVar, newRow, run_newObj_alloc, Sem.run_pure, Result.andThen_ok]
  exact hK _ _ h
theorem load_cl (hg : o.guard = none) (t : TypeId) (ht : t = 24) (x : Operand) (ho : o.op = .load t x) (b : Nat) (hx : a.eval x = .pointer (some ⟨b, 0, none⟩)) (c : Cl) (p : P3) (hX : Hid (ClBox w b c p))
    (h : wpList Tryz.prog ops Q rest (a.put o.dst (clV c p)) w) : wpList Tryz.prog ops Q (o :: rest) a w := by
  subst ht
  exact wpList_load_row hg 24 x ho b hx 24 (clA c p) (0, 0) _ hX.out Tryz.underlying24 rfl (by rw [clA_size]; exact cl_size) h
theorem store_cl (hg : o.guard = none) (t : TypeId) (ht : t = 24) (x y : Operand) (ho : o.op = .store t x y) (b : Nat) (hx : a.eval x = .pointer (some ⟨b, 0, none⟩)) (c : Cl) (p : P3) (hy : a.eval y = clV c p) (c0 : Cl) (p0 : P3) (hX : Hid (ClBox w b c0 p0))
    (h : wpList Tryz.prog ops Q rest (a.put o.dst undef) (w.setRow b (clA c p))) : wpList Tryz.prog ops Q (o :: rest) a w := by
  subst ht
  exact wpList_store_row hg 24 x y ho b (clA c p) hx hy 24 (clA c0 p0) hX.out (by rw [clA_size]; exact cl_size) rfl (clA_one c p) h
theorem build_cl (hg : o.guard = none) (t : TypeId) (ht : t = 24) (ho : o.op = .build t #[])
    (h : wpList Tryz.prog ops Q rest (a.put o.dst (clV cl0 p30)) w) : wpList Tryz.prog ops Q (o :: rest) a w := by
  subst ht
  have e : ((Tryz.prog.built 24 ((#[] : Array (Nat × Operand)).map fun (i, x) => (i, a.eval x)).toList)) = some (clA cl0 p30) := by
    have : ((#[] : Array (Nat × Operand)).map fun (i, x) => (i, a.eval x)).toList = [] := by simp
    rw [this]; exact cl_built
  exact wpList_build hg 24 #[] ho (by rw [e]; rfl) (by rw [e]; exact h)
theorem alloc_cl (hg : o.guard = none) (t : TypeId) (ht : t = 24) (ho : o.op = .alloc t)
    (h : wpList Tryz.prog ops Q rest (a.put o.dst (.pointer (some ⟨w.heap.size, 0, none⟩))) (w.alloc (clO cl0 p30))) : wpList Tryz.prog ops Q (o :: rest) a w := by
  subst ht
  refine wpList_plain hg fun K hK => ?_
  have hr : (Instr.alloc 24 true (.tuple #[])).run Tryz.prog w = .ok (.pointer (some ⟨w.heap.size, 0, none⟩)) (w.alloc (clO cl0 p30)) := by
    have hz : (zeroValue 24).run Tryz.prog w = .ok (clV cl0 p30) w := Tryz.zeroValue24 w
    simp only [Instr.alloc, Sem.run_bind, hz, newVar, newRow, run_newObj_alloc, Sem.run_pure, Result.andThen_ok]
    rfl
  unfold Oper.wp execOp
  simp only [ho, Sem.run_bind, hr, Sem.run_pure, Result.andThen_ok]
  exact hK _ _ h
end
theorem res_cl {fn : Func} {r u : Tmp} (h : fn.results = #[.cell r 24, .tmp u]) (tmps : Array Value) (w : World) (b : Nat) (c : Cl) (p : P3) (v : Value) (hr : tmps.getD r undef = .pointer (some ⟨b, 0, none⟩)) (hX : ClBox w b c p) (hu : tmps.getD u undef = v) :
    (results fn tmps).run Tryz.prog w = .ok (.tuple #[clV c p, v]) w := by
  rw [results_cell_tmp h, hr, hu]
  have hl : (loadVar 24 ⟨b, 0, none⟩).run Tryz.prog w = .ok (.agg (clA c p)) w := run_loadVar_row w b 24 24 (clA c p) (0, 0) _ hX Tryz.underlying24 rfl (by rw [clA_size]; exact cl_size)
  simp only [asAddr, Sem.run_pure, Result.andThen_ok, hl]
  rfl
theorem ret_cl {fn : Func} {r : Tmp} (h : fn.results = #[.cell r 24]) (tmps : Array Value) (w : World) (b : Nat) (c : Cl) (p : P3) (hr : tmps.getD r undef = .pointer (some ⟨b, 0, none⟩)) (hX : ClBox w b c p) :
    (results fn tmps).run Tryz.prog w = .ok (clV c p) w := results_cell_row h tmps w b 24 (clA c p) (0, 0) _ hr hX Tryz.underlying24 rfl (by rw [clA_size]; exact cl_size)
theorem ClBox.set {w : World} {b : Nat} {c0 c : Cl} {p0 p : P3} (h : ClBox w b c0 p0) : ClBox (w.setRow b (clA c p)) b c p := setRow_heap w b _ _ _ _ h
end Go.Proofs.YtpmikpijonccjaaGreatDoor

/- The lines of claims: the closure and its loops. -/
namespace Go.Proofs.YtpmikpijonccjaaGreatDoor
open Go.RowKit

/-- The keys, in their variable. -/
def keyCells : Array Value := (keysS.map Value.string).toArray
def KeysOk (w : World) : Prop := ∃ t fr, w.heap[0]? = some (.cells keyCells t fr)
theorem KeysOk.lt {w : World} (h : KeysOk w) : 0 < w.heap.size := by
  obtain ⟨t, fr, h⟩ := h
  exact (Array.getElem?_eq_some_iff.1 h).1
theorem KeysOk.below {w w' : World} (h : KeysOk w) (hb : Below w.heap.size w w') : KeysOk w' := by
  have hl := h.lt
  obtain ⟨t, fr, h⟩ := h
  exact ⟨t, fr, (hb.block _ hl).trans h⟩
theorem KeysOk.cell {w : World} (h : KeysOk w) (i : Nat) (hi : i < 16) : w.cell? ⟨0, i, none⟩ = some (.string (keysS[i]'hi)) := by
  obtain ⟨t, fr, h⟩ := h
  rw [cell_of_row w _ i _ _ _ h]
  show (keysS.map Value.string).toArray[i]? = _
  rw [List.getElem?_toArray, List.getElem?_map, List.getElem?_eq_getElem (show i < keysS.length from hi)]
  rfl
set_option maxHeartbeats 1000000 in
theorem line1_any (i : Nat) (hi : i < 16) (v : ByteArray) (B b : Nat) (l : List UInt8) (w : World) (hk : KeysOk w) (h : Bld B b l w) (hlen : l.length + v.size ≤ 1000000) (hBw : B ≤ w.heap.size) :
    Calls Tryz.prog 72 #[.int .i64 i, .string v, .pointer (some ⟨b, 0, none⟩)] w fun e w' => e = .returned (.tuple #[]) ∧ (Bld B b (l ++ lineL (keysS[i]'hi) v) w' ∧ Below B w w') := by
  have hc := hk.cell i hi
  have hks := keys_len _ (List.getElem_mem (l := keysS) hi)
  obtain ⟨k, HK⟩ : ∃ k, Hid (keysS[i]'hi = k) := ⟨_, Lib.hid rfl⟩
  rw [HK.out] at hc hks
  rw [HK.out]
  have f1 : (0 : Int) ≤ (i : Int) := by omega
  have f2 : (i : Int) < 16 := by omega
  have HL : Hid ((k ++ ⟨#[61]⟩ ++ v ++ ⟨#[10]⟩ : ByteArray).data.toList = lineL k v) := Lib.hid (by simp [lineL])
  have HZ : Hid ((k ++ ⟨#[61]⟩ ++ v ++ ⟨#[10]⟩ : ByteArray).size ≤ 1000020) := Lib.hid (by
    rw [ByteArray.size_append, ByteArray.size_append, ByteArray.size_append, show (⟨#[61]⟩ : ByteArray).size = 1 from rfl, show (⟨#[10]⟩ : ByteArray).size = 1 from rfl]; omega)
  go_enter Tryz.func72, Tryz.ntmps72
  go_wp2_with fail
  obtain ⟨X, HX⟩ : ∃ X, Hid ((k ++ ⟨#[61]⟩ ++ v ++ ⟨#[10]⟩ : ByteArray) = X) := ⟨_, Lib.hid rfl⟩
  rw [HX.out] at HL HZ
  rw [HX.out]
  refine (writeString_any B b l X w h (by have := HZ.out; omega) hBw).mono ?_
  rintro e w1 ⟨rfl, h1, h2⟩
  rw [HL.out] at h1
  have H1 := Lib.hid (And.intro h1 h2)
  clear h1 h2
  go_wp2_with fail
  go_end0
  exact ⟨rfl, H1.out⟩
theorem Bld.below {B b : Nat} {l : List UInt8} {w w' : World} (h : Bld B b l w) (hb : Below w.heap.size w w') : Bld B b l w' := by
  have one : ∀ p, Lib.BuilderAt 89 5 B b p (Lib.byteCells l) w → Lib.BuilderAt 89 5 B b p (Lib.byteCells l) w' := fun p h => by
    have hlt := h.lt
    obtain ⟨hB, v, hv, hown, hne⟩ := h
    exact ⟨hB, v, (hb.block b hlt).trans hv, own_below hown hb, hne⟩
  rcases h with h | h
  · exact .inl (one _ h)
  · exact .inr (one _ h)
theorem vals_str (c : Cl) (k : Nat) (hk : k < 8) : (valsS c)[k]'(show k < 16 by omega) = escS (strAt c k) := by
  rcases k with _|_|_|_|_|_|_|_|k <;> first | omega | rfl
theorem vals_lst (c : Cl) (k : Nat) (hk : k < 3) : (valsS c)[8 + k]'(show 8 + k < 16 by omega) = joinS (lstAt c k) := by
  rcases k with _|_|_|k <;> first | omega | rfl
theorem vals_num (c : Cl) (k : Nat) (hk : k < 5) : (valsS c)[11 + k]'(show 11 + k < 16 by omega) = itoaS (numAt c k) := by
  rcases k with _|_|_|_|_|k <;> first | omega | rfl
theorem ClSmall.str {c : Cl} (h : ClSmall c) (k : Nat) : (strAt c k).size ≤ 256 := by
  obtain ⟨s0, s1, s2, s3, s4, s5, s6, s7, _⟩ := h
  rcases k with _|_|_|_|_|_|_|_|k <;> first | assumption | (show (0 : Nat) ≤ _; omega)
theorem ClSmall.num {c : Cl} (h : ClSmall c) (k : Nat) (hk : k < 5) : 0 ≤ numAt c k ∧ numAt c k ≤ 1099511627776 := by
  obtain ⟨_, _, _, _, _, _, _, _, _, _, _, _, _, _, i0, i1, i2, i3, i4⟩ := h
  rcases k with _|_|_|_|_|k
  · exact i0
  · exact i1
  · exact i2
  · exact i3
  · exact ⟨i4.1, by show c.level ≤ _; omega⟩
  · omega
theorem ClSmall.lst {c : Cl} (h : ClSmall c) (k : Nat) : (lstAt c k).length ≤ 16 ∧ ∀ s ∈ lstAt c k, s.size ≤ 256 := by
  rcases k with _|_|_|k
  · exact ⟨h.l1, h.z1⟩
  · exact ⟨h.l2, h.z2⟩
  · exact ⟨h.l3, h.z3⟩
  · exact ⟨by show (0 : Nat) ≤ 16; omega, fun s hs => by simp [lstAt] at hs⟩
/-- The first k lines. -/
def enc0 (c : Cl) (k : Nat) : List UInt8 := linesL (keysS.take k) ((valsS c).take k)
theorem enc0_next (c : Cl) (k : Nat) (hk : k < 16) : enc0 c (k + 1) = enc0 c k ++ lineL (keysS[k]'hk) ((valsS c)[k]'hk) := lines_take keysS (valsS c) k hk hk
theorem enc0_str (c : Cl) (k : Nat) (hk : k < 8) : enc0 c (k + 1) = enc0 c k ++ lineL (keysS[k]'(show k < 16 by omega)) (escS (strAt c k)) := by rw [enc0_next c k (by omega), vals_str c k hk]
theorem enc0_lst (c : Cl) (k : Nat) (hk : k < 3) : enc0 c (8 + k + 1) = enc0 c (8 + k) ++ lineL (keysS[8 + k]'(show 8 + k < 16 by omega)) (joinS (lstAt c k)) := by rw [enc0_next c (8 + k) (by omega), vals_lst c k hk]
theorem enc0_num (c : Cl) (k : Nat) (hk : k < 5) : enc0 c (11 + k + 1) = enc0 c (11 + k) ++ lineL (keysS[11 + k]'(show 11 + k < 16 by omega)) (itoaS (numAt c k)) := by rw [enc0_next c (11 + k) (by omega), vals_num c k hk]
theorem enc0_len {c : Cl} (h : ClSmall c) (k : Nat) : (enc0 c k).length ≤ 700000 := by
  have hk : (keysS.take k).length ≤ 16 := by rw [List.length_take, keysS_len]; omega
  have := lines_len 20000 (keysS.take k) ((valsS c).take k) (fun x hx => by have := keys_len x (List.mem_of_mem_take hx); omega) (fun x hx => vals_le h x (List.mem_of_mem_take hx))
  have e : (keysS.take k).length * (2 * 20000 + 2) ≤ 16 * (2 * 20000 + 2) := Nat.mul_le_mul_right _ hk
  rw [enc0]; omega
theorem enc0_all (c : Cl) : (⟨(enc0 c 16).toArray⟩ : ByteArray) = encS c := rfl
theorem line1_cast (j : Int) (i : Nat) (hj : (i : Int) = j) (hi : i < 16) (v : ByteArray) (B b : Nat) (l : List UInt8) (w : World) (hk : KeysOk w) (h : Bld B b l w) (hlen : l.length + v.size ≤ 1000000) (hBw : B ≤ w.heap.size) :
    Calls Tryz.prog 72 #[.int .i64 j, .string v, .pointer (some ⟨b, 0, none⟩)] w fun e w' => e = .returned (.tuple #[]) ∧ (Bld B b (l ++ lineL (keysS[i]'hi) v) w' ∧ Below B w w') := by
  subst hj; exact line1_any i hi v B b l w hk h hlen hBw
set_option maxHeartbeats 8000000 in
set_option maxRecDepth 100000 in
theorem lines_any (c : Cl) (p : P3) (w : World) (hs : ClSmall c) (hC : ClAt w c p) (hk : KeysOk w) (hp : PowOk w) :
    Calls Tryz.prog 42 #[clV c p] w fun e w' => e = .returned (.string (encS c)) ∧ Below w.heap.size w w' := by
  have hmf : ∀ (fn : Fn) (first cap : Array Value) (w : World), (Instr.makeFunc fn first cap).run Tryz.prog w = .ok (.func fn first cap) w := fun _ _ _ _ => rfl
  have B1 : Hid (Below w.heap.size w (w.alloc (clO c p))) := Lib.hid ((Below.refl _ _).alloc (Nat.le_refl _) _)
  have X1 : Hid (ClBox (w.alloc (clO c p)) w.heap.size c p) := Lib.hid (ClBox.new w c p)
  have D1 := Lib.hid (Bld.fresh (w.alloc (clO c p)))
  have HS := Lib.hid hs
  have HC := Lib.hid hC
  have HK := Lib.hid hk
  have HP := Lib.hid hp
  clear hs hC hk hp
  go_enter Tryz.func42, Tryz.ntmps42
  go_wp2_with (first | (refine box_cl rfl _ rfl _ rfl c p rfl ?_) | fail)
  refine (texts_any w.heap.size _).mono ?_
  rintro e w1 ⟨rfl, hb1⟩
  have B2 : Hid (Below w.heap.size w w1) := Lib.hid ((B1.out.alloc B1.out.size _).trans (hb1.mono (by simp; omega)))
  have X2 : Hid (ClBox w1 w.heap.size c p) := Lib.hid ((X1.out.below ((Below.refl _ _).alloc (Nat.le_refl _) _)).below hb1)
  have D2 : Hid (Bld (w.heap.size + 1) (w.heap.size + 1) [] w1) := Lib.hid (by have h := D1.out.below hb1; simpa using h)
  have hz1 : w.heap.size + 1 ≤ w1.heap.size := by have := hb1.size; simp at this; omega
  clear B1 X1 D1 hb1
  go_wp2_with fail
  go_loopw [13] (fun i wr => ∃ k : Nat, k ≤ 8 ∧ i = .int .i64 k ∧ Hid (Bld (w.heap.size + 1) (w.heap.size + 1) (enc0 c k) wr) ∧ Hid (ClBox wr w.heap.size c p) ∧ Hid (Below w.heap.size w wr) ∧ w.heap.size + 1 ≤ wr.heap.size) (fun i _ => 8 - (intOf i).toNat)
  case atStart => exact ⟨0, Nat.zero_le _, rfl, D2, X2, B2, hz1⟩
  case round =>
    obtain ⟨k, hk, rfl, D3, X3, B3, hz3⟩ := hrel
    by_cases hlt : k < 8
    · have hidx := fun W => idx_texts w.heap.size k hlt W
      have hcell := X3.out.str k hlt
      have hxz := HS.out.str k
      have HNX := Lib.hid (enc0_str c k hlt)
      obtain ⟨x, HX⟩ : ∃ x, Hid (strAt c k = x) := ⟨_, Lib.hid rfl⟩
      rw [HX.out] at hcell hxz HNX
      have hez := escS_size x
      have HEL := Lib.hid (enc0_len HS.out k)
      go_wp2_with fail
      refine (esc_any x _ (by omega)).mono ?_
      rintro e w4 ⟨rfl, hb4⟩
      have B4 := Lib.hid (bthen B3.out hb4)
      have X4 := Lib.hid (X3.out.below hb4)
      have D4 := Lib.hid (D3.out.below hb4)
      have hz4 : w.heap.size + 1 ≤ w4.heap.size := by have := hb4.size; omega
      clear hb4 hcell hidx
      obtain ⟨y, HY⟩ : ∃ y, Hid (escS x = y) := ⟨_, Lib.hid rfl⟩
      rw [HY.out] at hez HNX
      rw [HY.out]
      go_wp2_with fail
      refine (line1_any k (by omega) y (w.heap.size + 1) (w.heap.size + 1) (enc0 c k) _ (HK.out.below B4.out) D4.out (by have := HEL.out; omega) hz4).mono ?_
      rintro e w5 ⟨rfl, h5, hb5⟩
      have B5 := Lib.hid (B4.out.trans (hb5.mono (by omega)))
      have X5 : Hid (ClBox w5 w.heap.size c p) := Lib.hid ((hb5.block w.heap.size (by omega)).trans X4.out)
      have D5 : Hid (Bld (w.heap.size + 1) (w.heap.size + 1) (enc0 c (k + 1)) w5) := Lib.hid (by rw [HNX.out]; exact h5)
      have hz5 : w.heap.size + 1 ≤ w5.heap.size := by have := hb5.size; omega
      clear h5 hb5
      go_wp2_with fail
      go_roundw
      case rel => exact ⟨k + 1, hlt, by go_num, D5, X5, B5, hz5⟩
      case measure => simp [intOf]; omega
    · obtain rfl : k = 8 := by omega
      clear B2 X2 D2
      go_wp2_with fail
      refine (lists_any w.heap.size _).mono ?_
      rintro e wb1 ⟨rfl, hbb1⟩
      have Bb2 : Hid (Below w.heap.size w wb1) := Lib.hid (bthen B3.out hbb1)
      have Xb2 : Hid (ClBox wb1 w.heap.size c p) := Lib.hid (X3.out.below hbb1)
      have Db2 : Hid (Bld (w.heap.size + 1) (w.heap.size + 1) (enc0 c 8) wb1) := Lib.hid (D3.out.below hbb1)
      have hzb1 : w.heap.size + 1 ≤ wb1.heap.size := by have := hbb1.size; omega
      clear hbb1 B3 X3 D3 hz3 hlt
      go_wp2_with fail
      go_loopw [26] (fun i wr => ∃ k : Nat, k ≤ 3 ∧ i = .int .i64 k ∧ Hid (Bld (w.heap.size + 1) (w.heap.size + 1) (enc0 c (8 + k)) wr) ∧ Hid (ClBox wr w.heap.size c p) ∧ Hid (Below w.heap.size w wr) ∧ w.heap.size + 1 ≤ wr.heap.size) (fun i _ => 3 - (intOf i).toNat)
      case atStart => exact ⟨0, Nat.zero_le _, rfl, Db2, Xb2, Bb2, hzb1⟩
      case round =>
        obtain ⟨k, hk, rfl, D3, X3, B3, hz3⟩ := hrel
        by_cases hlt : k < 3
        · have hidx := fun W => idx_lists w.heap.size k hlt W
          have hcell := X3.out.lst k hlt
          have hlz := HS.out.lst k
          obtain ⟨hl1, hl2⟩ := hlz
          have HNX := Lib.hid (enc0_lst c k hlt)
          have HSA := Lib.hid ((HC.out.below B3.out).lst k hlt)
          have hez : (joinS (lstAt c k)).size ≤ 20000 := by
            have := joinS_le (lstAt c k) 256 hl2
            have e : (lstAt c k).length * (3 * 256 + 1) ≤ 16 * (3 * 256 + 1) := Nat.mul_le_mul_right _ hl1
            omega
          have HZ2 : Hid (∀ s ∈ lstAt c k, s.size ≤ 300000) := Lib.hid (fun s hs => by have := hl2 s hs; omega)
          clear hl2
          obtain ⟨x, HX⟩ : ∃ x, Hid (lstAt c k = x) := ⟨_, Lib.hid rfl⟩
          obtain ⟨A, HA⟩ : ∃ A, Hid (adrAt p k = A) := ⟨_, Lib.hid rfl⟩
          obtain ⟨cp, HCP⟩ : ∃ cp, Hid (capAt p k = cp) := ⟨_, Lib.hid rfl⟩
          rw [HX.out, HA.out, HCP.out] at hcell
          rw [HX.out] at hl1 HNX hez HSA HZ2
          rw [HA.out] at HSA
          have HEL := Lib.hid (enc0_len HS.out (8 + k))
          go_wp2_with fail
          refine (cjoin_any x A cp _ HSA.out (by omega) HZ2.out).mono ?_
          rintro e w4 ⟨rfl, hb4⟩
          have B4 := Lib.hid (bthen B3.out hb4)
          have X4 := Lib.hid (X3.out.below hb4)
          have D4 := Lib.hid (D3.out.below hb4)
          have hz4 : w.heap.size + 1 ≤ w4.heap.size := by have := hb4.size; omega
          clear hb4 hcell hidx
          obtain ⟨y, HY⟩ : ∃ y, Hid (joinS x = y) := ⟨_, Lib.hid rfl⟩
          rw [HY.out] at hez HNX
          rw [HY.out]
          go_wp2_with fail
          refine (line1_cast _ (8 + k) (by omega) (by omega) y (w.heap.size + 1) (w.heap.size + 1) (enc0 c (8 + k)) _ (HK.out.below B4.out) D4.out (by have := HEL.out; omega) hz4).mono ?_
          rintro e w5 ⟨rfl, h5, hb5⟩
          have B5 := Lib.hid (B4.out.trans (hb5.mono (by omega)))
          have X5 : Hid (ClBox w5 w.heap.size c p) := Lib.hid ((hb5.block w.heap.size (by omega)).trans X4.out)
          have D5 : Hid (Bld (w.heap.size + 1) (w.heap.size + 1) (enc0 c (8 + (k + 1))) w5) := Lib.hid (by rw [show 8 + (k + 1) = 8 + k + 1 by omega, HNX.out]; exact h5)
          have hz5 : w.heap.size + 1 ≤ w5.heap.size := by have := hb5.size; omega
          clear h5 hb5
          go_wp2_with fail
          go_roundw
          case rel => exact ⟨k + 1, hlt, by go_num, D5, X5, B5, hz5⟩
          case measure => simp [intOf]; omega
        · obtain rfl : k = 3 := by omega
          clear Bb2 Xb2 Db2
          go_wp2_with fail
          refine (numbers_any w.heap.size _).mono ?_
          rintro e wc1 ⟨rfl, hbc1⟩
          have Bc2 : Hid (Below w.heap.size w wc1) := Lib.hid (bthen B3.out hbc1)
          have Xc2 : Hid (ClBox wc1 w.heap.size c p) := Lib.hid (X3.out.below hbc1)
          have Dc2 : Hid (Bld (w.heap.size + 1) (w.heap.size + 1) (enc0 c 11) wc1) := Lib.hid (D3.out.below hbc1)
          have hzc1 : w.heap.size + 1 ≤ wc1.heap.size := by have := hbc1.size; omega
          clear hbc1 B3 X3 D3 hz3 hlt
          go_wp2_with fail
          go_loopw [40] (fun i wr => ∃ k : Nat, k ≤ 5 ∧ i = .int .i64 k ∧ Hid (Bld (w.heap.size + 1) (w.heap.size + 1) (enc0 c (11 + k)) wr) ∧ Hid (ClBox wr w.heap.size c p) ∧ Hid (Below w.heap.size w wr) ∧ w.heap.size + 1 ≤ wr.heap.size) (fun i _ => 5 - (intOf i).toNat)
          case atStart => exact ⟨0, Nat.zero_le _, rfl, Dc2, Xc2, Bc2, hzc1⟩
          case round =>
            obtain ⟨k, hk, rfl, D3, X3, B3, hz3⟩ := hrel
            by_cases hlt : k < 5
            · have hidx := fun W => idx_numbers w.heap.size k hlt W
              have hcell := X3.out.num k hlt
              have hn := HS.out.num k hlt
              obtain ⟨hn1, hn2⟩ := hn
              have HNX := Lib.hid (enc0_num c k hlt)
              obtain ⟨x, HX⟩ : ∃ x, Hid (numAt c k = x) := ⟨_, Lib.hid rfl⟩
              rw [HX.out] at hcell hn1 hn2 HNX
              have hez := itoaS_size x (by omega) (by omega)
              have HEL := Lib.hid (enc0_len HS.out (11 + k))
              go_wp2_with fail
              refine (cint_any x _ (by omega) (by omega) (HP.out.below B3.out)).mono ?_
              rintro e w4 ⟨rfl, hb4⟩
              have B4 := Lib.hid (bthen B3.out hb4)
              have X4 := Lib.hid (X3.out.below hb4)
              have D4 := Lib.hid (D3.out.below hb4)
              have hz4 : w.heap.size + 1 ≤ w4.heap.size := by have := hb4.size; omega
              clear hb4 hcell hidx
              obtain ⟨y, HY⟩ : ∃ y, Hid (itoaS x = y) := ⟨_, Lib.hid rfl⟩
              rw [HY.out] at hez HNX
              rw [HY.out]
              go_wp2_with fail
              refine (line1_cast _ (11 + k) (by omega) (by omega) y (w.heap.size + 1) (w.heap.size + 1) (enc0 c (11 + k)) _ (HK.out.below B4.out) D4.out (by have := HEL.out; omega) hz4).mono ?_
              rintro e w5 ⟨rfl, h5, hb5⟩
              have B5 := Lib.hid (B4.out.trans (hb5.mono (by omega)))
              have X5 : Hid (ClBox w5 w.heap.size c p) := Lib.hid ((hb5.block w.heap.size (by omega)).trans X4.out)
              have D5 : Hid (Bld (w.heap.size + 1) (w.heap.size + 1) (enc0 c (11 + (k + 1))) w5) := Lib.hid (by rw [show 11 + (k + 1) = 11 + k + 1 by omega, HNX.out]; exact h5)
              have hz5 : w.heap.size + 1 ≤ w5.heap.size := by have := hb5.size; omega
              clear h5 hb5
              go_wp2_with fail
              go_roundw
              case rel => exact ⟨k + 1, hlt, by go_num, D5, X5, B5, hz5⟩
              case measure => simp [intOf]; omega
            · obtain rfl : k = 5 := by omega
              clear Bc2 Xc2 Dc2
              go_wp2_with fail
              refine (bldString_any (w.heap.size + 1) (w.heap.size + 1) _ _ D3.out hz3).mono ?_
              rintro e w6 ⟨rfl, hb6⟩
              have B6 := Lib.hid (B3.out.trans (hb6.mono (by omega)))
              clear hb6
              go_wp2_with fail
              go_ret
              exact ⟨rfl, B6.out⟩
end Go.Proofs.YtpmikpijonccjaaGreatDoor

/- What the rows' listed variables give the walks: the powers of ten, strconv's errors and the keys of claims. -/
namespace Go.Proofs.YtpmikpijonccjaaGreatDoor
open Go.ChangeShapes Go.WideShapes Go.ChangeAt Go.RowKit

theorem row_es (u : TypeId) (h : Tryz.prog.typeName? 3 u = some "*errors.errorString") : u = 154 := by
  have star : ("*errors.errorString" : String) = "*" ++ "errors.errorString" := by decide +kernel
  exact typeName_ptr_named (nm := "errors.errorString") (by rw [← star]; kernel_rfl) (by kernel_rfl) (by decide) u (by rw [← star]; exact h)
/-- An array of strings that reads as a table holds the table's strings, cell for cell. -/
theorem cells_of_strs {H : Type} {enc : TypeId × Value → H} {P : Program} {w : World} {base : Nat} {sp : Nat → Bool} {held : Bool} {fuel : Nat} {t e : TypeId} {n : Nat} {cs : List Value} {zs : List (List UInt8)} {p : List MemPlace}
    (ht : P.underlying t = some (.array n e)) (he : P.underlying e = some .string) (hce : P.cellsOf e = 1) (hct : P.cellsOf t = n)
    (h : DataW.trod enc P w base sp held fuel t cs = some (.agg (zs.map fun z => .lit (.string z)), p)) : cs = zs.map fun z => Value.string ⟨z.toArray⟩ := by
  cases fuel with
  | zero => simp [DataW.trod] at h
  | succ fuel =>
    simp only [DataW.trod, ht, hce, hct, Nat.mul_one] at h
    split at h
    · rename_i hl
      obtain ⟨xs, hm, hx⟩ := Option.map_eq_some_iff.1 h
      have hxs : xs.map (·.1) = zs.map fun z => (DataW.lit (.string z) : DataW H) := by
        have := congrArg Prod.fst hx
        simpa using this
      have hxl : xs.length = n := by simpa using Lib.mapM_length hm
      have hzl : zs.length = n := by
        have := congrArg List.length hxs
        simp at this
        omega
      apply List.ext_getElem?
      intro i
      by_cases hi : i < n
      · obtain ⟨b, hb, hf⟩ := Lib.mapM_at hm i i (by simp [hi])
        obtain ⟨z, hc, rfl, _⟩ := DataW.trod_string he hf
        have h1 : cs[i]? = some (.string z) := by
          have := congrArg (·[0]?) hc
          simpa [List.getElem?_take, List.getElem?_drop] using this
        have h2 : (xs.map (·.1))[i]? = some (DataW.lit (.string z.data.toList) : DataW H) := by simp [hb]
        rw [hxs] at h2
        simp only [List.getElem?_map, Option.map_eq_some_iff, DataW.lit.injEq, Lit.string.injEq] at h2
        obtain ⟨z', hz', hz2⟩ := h2
        subst hz2
        simp [h1, hz']
      · rw [List.getElem?_eq_none (by omega), List.getElem?_eq_none (by simp; omega)]
    · cases h
def laidList : List (String × DataW Unit) := Rows.claimsChecksRow.laid
theorem errs_lt {W : World} {n : String} {g : Nat} {cs : Array Value} (hg : Tryz.prog.globalNamed n = some g) (h : W.var? Tryz.prog n = some cs) : g < W.heap.size := by
  unfold World.var? at h
  rw [hg, Option.bind_some] at h
  split at h
  · rename_i cs t fr hb
    exact (Array.getElem?_eq_some_iff.1 hb).1
  · cases h
theorem laid_tabs {W : World} (h : laidMetH Tryz.prog laidList W) : KeysOk W ∧ PowOk W ∧ ErrsOk W := by
  rw [MakeChecks.laidMetH_plain _ _ _ (by kernel_rfl)] at h
  have h3 : laidMet Tryz.prog _ W := h.tail.tail
  have h5 : laidMet Tryz.prog _ W := h3.tail.tail
  have h6 : laidMet Tryz.prog _ W := h5.tail
  have h7 : laidMet Tryz.prog _ W := h6.tail
  have t3 := Lib.tabIs_of_head (P := Tryz.prog) (W := W) (k := .u64) (zs := Lib.pow10Tab) (g := 6) (t := 159) (e := 133) (n := 20) (by kernel_rfl) (by kernel_rfl) Tryz.underlying159 Tryz.underlying133 (by kernel_rfl) (by kernel_rfl) h3
  obtain ⟨a5, s5, hv5, _⟩ := laid_sentinel (g := 3) (te := 156) h5 (by kernel_rfl) (by kernel_rfl) Tryz.underlying91 row_es Tryz.underlying154 Tryz.underlying156 rfl rfl Tryz.underlying9 (by kernel_rfl) (by kernel_rfl)
  obtain ⟨a6, s6, hv6, _⟩ := laid_sentinel (g := 2) (te := 156) h6 (by kernel_rfl) (by kernel_rfl) Tryz.underlying91 row_es Tryz.underlying154 Tryz.underlying156 rfl rfl Tryz.underlying9 (by kernel_rfl) (by kernel_rfl)
  have hk : KeysOk W := by
    obtain ⟨ps, ⟨g', t', cs, fuel, p, q, hg', ht', hvar, hd, _, _⟩, _⟩ := h7
    have hg : Tryz.prog.globalNamed "identity/claims.keys" = some 0 := by kernel_rfl
    obtain rfl := Option.some.inj (hg.symm.trans hg')
    have hty : (Tryz.prog.globals[0]?).map (·.type) = some 64 := by kernel_rfl
    obtain rfl := Option.some.inj (hty.symm.trans ht')
    have hcs := cells_of_strs (zs := keysS.map (·.data.toList)) Tryz.underlying64 Tryz.underlying9 (by kernel_rfl) (by kernel_rfl) hd
    unfold World.var? at hvar
    simp only [hg, Option.bind_some] at hvar
    split at hvar
    · rename_i cs' t fr hb
      injection hvar with hvar
      refine ⟨t, fr, ?_⟩
      rw [hb, hvar]
      congr 2
      apply Array.toList_inj.1
      rw [hcs]
      rfl
    · cases hvar
  exact ⟨hk, ⟨⟨6, by kernel_rfl, tab_lt (by kernel_rfl) t3⟩, t3⟩, ⟨⟨_, _, hv6⟩, ⟨_, _, hv5⟩, errs_lt (by kernel_rfl) hv6, errs_lt (by kernel_rfl) hv5⟩⟩
/- The world that holds what is listed: it serves as the rows' witness. -/
set_option maxRecDepth 100000 in
theorem w_hv (os : Os) (args : Array Value) : ((World.laidAll Tryz.prog os laidList).forCall (fun _ _ => 0) ⟨#[], args, []⟩).variablesB Tryz.prog = true := by kernel_rfl
set_option maxRecDepth 100000 in
theorem w_hr (os : Os) (args : Array Value) : (((World.laidAll Tryz.prog os laidList).forCall (fun _ _ => 0) ⟨#[], args, []⟩).heap.toList.drop Tryz.prog.globals.size).take ((begin Tryz.prog (fun _ _ => 0) default).world.heap.size - Tryz.prog.globals.size) =
      (begin Tryz.prog (fun _ _ => 0) default).world.heap.toList.drop Tryz.prog.globals.size := by kernel_rfl
set_option maxRecDepth 100000 in
theorem w_laid (os : Os) (args : Array Value) : laidMet Tryz.prog laidList ((World.laidAll Tryz.prog os laidList).forCall (fun _ _ => 0) ⟨#[], args, []⟩).memory :=
  laidMet_laidAll args (by kernel_rfl) (by kernel_rfl)
end Go.Proofs.YtpmikpijonccjaaGreatDoor

/- slices.Contains over strings, and the reference's Has. -/
namespace Go.Proofs.YtpmikpijonccjaaGreatDoor
open Go.RowKit

theorem memB_contains (l : List ByteArray) (s : ByteArray) : Lib.containsS l s = memB l s := by
  rw [Bool.eq_iff_iff, Lib.containsS_iff, memB_iff]
theorem contains_any (l : List ByteArray) (n : Nat) (hn : n ≤ l.length) (A : Option Addr) (c : Nat) (s : ByteArray) (w : World) (hS : Strs w A l) (hl : l.length ≤ 9223372036854775807) :
    Calls Tryz.prog 32 #[.slice A n c, .string s] w fun e w' => e = .returned (.bool (memB (l.take n) s)) ∧ w = w' := by
  by_cases h0 : n = 0
  · subst h0
    refine (Tryz.slices_Contains_string_empty A c s w).mono fun e w' ⟨he, hw⟩ => ⟨?_, hw.symm⟩
    rw [he]; rfl
  · obtain ⟨b, o, rfl, _⟩ := hS 0 (by omega)
    refine (Tryz.slices_Contains_string b o n c l s w hn (by omega) (fun j hj => ?_)).mono fun e w' ⟨he, hw⟩ => ⟨?_, hw.symm⟩
    · obtain ⟨b', o', e, hc⟩ := hS j hj
      injection e with e
      injection e with e1 e2
      subst e1; subst e2
      rw [hc, List.getD_eq_getElem?_getD, List.getElem?_eq_getElem hj, Option.getD_some]
    · rw [he, memB_contains]
theorem memB_step {l : List ByteArray} {k : Nat} {s : ByteArray} (hk : k < l.length) (h : memB (l.take k) s = false) (hne : l[k] ≠ s) : memB (l.take (k + 1)) s = false := by
  rw [List.take_succ_eq_append_getElem hk, memB, List.any_append, ← memB, h]
  simp [hne]
theorem memB_hit {l : List ByteArray} {k : Nat} {s : ByteArray} (hk : k < l.length) (h : l[k] = s) : memB l s = true := by
  rw [memB_iff, ← h]; exact List.getElem_mem hk
set_option maxHeartbeats 1000000 in
theorem has_any (l : List ByteArray) (A : Option Addr) (c : Nat) (s : ByteArray) (w : World) (hS : Strs w A l) (hl : l.length ≤ 9223372036854775807) :
    Calls Tryz.prog 28 #[.slice A l.length c, .string s] w fun e w' => e = .returned (.bool (memB l s)) ∧ w = w' := by
  have HS := Lib.hid hS
  have HH := Lib.hid (fun k hk h => @memB_hit l k s hk h)
  obtain ⟨V, HV⟩ : ∃ V, Hid (memB l s = V) := ⟨_, Lib.hid rfl⟩
  rw [HV.out] at HH
  rw [HV.out]
  clear hS
  go_enter Tryz.func28, Tryz.ntmps28
  go_wp2_with fail
  go_loop [5] (fun i => ∃ k : Nat, k ≤ l.length ∧ i = .int .i64 k ∧ Hid (memB (l.take k) s = false)) (fun i => l.length - (intOf i).toNat)
  case atStart => exact ⟨0, Nat.zero_le _, rfl, Lib.hid rfl⟩
  case round =>
    obtain ⟨k, hk, rfl, HM⟩ := hrel
    by_cases hlt : k < l.length
    · obtain ⟨b, o, rfl, hc⟩ := HS.out k hlt
      have HST := Lib.hid (fun h => memB_step hlt HM.out h)
      have HHK := Lib.hid (HH.out k hlt)
      obtain ⟨x, HX⟩ : ∃ x, Hid (l[k] = x) := ⟨_, Lib.hid rfl⟩
      rw [HX.out] at hc HST HHK
      by_cases hxs : x = s
      · have hG := Lib.hid (HHK.out hxs)
        subst hxs
        have e1 : (x.toList == x.toList) = true := by simp
        go_wp2_with fail
        go_ret
        exact ⟨ret_b hG.out.symm, rfl⟩
      · have e1 := str_ne hxs
        have e2 : ¬ x.toList = s.toList := fun h => by rw [h] at e1; simp at e1
        have HN := Lib.hid (HST.out hxs)
        go_wp2_with fail
        go_round
        case rel => exact ⟨k + 1, hlt, by go_num, HN⟩
        case measure => simp [intOf]; omega
    · have hG : Hid (V = false) := Lib.hid (by rw [← HV.out]; have h := HM.out; rwa [List.take_of_length_le (by omega)] at h)
      go_wp2_with fail
      go_ret
      exact ⟨ret_b hG.out.symm, rfl⟩
end Go.Proofs.YtpmikpijonccjaaGreatDoor

