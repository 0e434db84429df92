/- Joined: TokLaid, ClmClock, StrOrd, ClmNarP, KeyPlain, DigRead, DigMix, DigBack, TokPlain, TokSplit, TokSplit2, CodRR64P, CodFirst. -/
import Derived.Test.YtiiioefjdebggaaGreatDoorRows
import Derived.Test.YtiiioefjdebggaaGreatDoorSeg1
import Derived.Test.YtiiioefjdebggaaGreatDoorSeg4
import Derived.LaidLaws
import Derived.Lay
import Derived.Deep.QuietTactic
import Derived.BigQuiet
import Derived.IntWalk
import Derived.Laws.BitsAllLaws
import Derived.Test.YtiiioefjdebggaaGreatDoorSeg2
import Derived.Lib.LastIndexByte
import Derived.Test.YtiiioefjdebggaaGreatDoorShelf
import Derived.StillTailTactics
import Derived.Test.YtiiioefjdebggaaGreatDoorSeg3
/- What the rows' listed variables give the walks: the powers of ten, strconv's errors and the keys of claims. -/
namespace Go.Proofs.YtiiioefjdebggaaGreatDoor
open Go.ChangeShapes Go.WideShapes Go.ChangeAt Go.RowKit

theorem row_es (u : TypeId) (h : Tryz.prog.typeName? 3 u = some "*errors.errorString") : u = 196 := by
  have star : ("*errors.errorString" : String) = "*" ++ "errors.errorString" := by decide +kernel
  exact typeName_ptr_named (nm := "errors.errorString") (by rw [← star]; kernel_rfl) (by kernel_rfl) (by decide) u (by rw [← star]; exact h)
/-- An array of strings that reads as a table holds the table's strings, cell for cell. -/
theorem cells_of_strs {H : Type} {enc : TypeId × Value → H} {P : Program} {w : World} {base : Nat} {sp : Nat → Bool} {held : Bool} {fuel : Nat} {t e : TypeId} {n : Nat} {cs : List Value} {zs : List (List UInt8)} {p : List MemPlace}
    (ht : P.underlying t = some (.array n e)) (he : P.underlying e = some .string) (hce : P.cellsOf e = 1) (hct : P.cellsOf t = n)
    (h : DataW.trod enc P w base sp held fuel t cs = some (.agg (zs.map fun z => .lit (.string z)), p)) : cs = zs.map fun z => Value.string ⟨z.toArray⟩ := by
  cases fuel with
  | zero => simp [DataW.trod] at h
  | succ fuel =>
    simp only [DataW.trod, ht, hce, hct, Nat.mul_one] at h
    split at h
    · rename_i hl
      obtain ⟨xs, hm, hx⟩ := Option.map_eq_some_iff.1 h
      have hxs : xs.map (·.1) = zs.map fun z => (DataW.lit (.string z) : DataW H) := by
        have := congrArg Prod.fst hx
        simpa using this
      have hxl : xs.length = n := by simpa using Lib.mapM_length hm
      have hzl : zs.length = n := by
        have := congrArg List.length hxs
        simp at this
        omega
      apply List.ext_getElem?
      intro i
      by_cases hi : i < n
      · obtain ⟨b, hb, hf⟩ := Lib.mapM_at hm i i (by simp [hi])
        obtain ⟨z, hc, rfl, _⟩ := DataW.trod_string he hf
        have h1 : cs[i]? = some (.string z) := by
          have := congrArg (·[0]?) hc
          simpa [List.getElem?_take, List.getElem?_drop] using this
        have h2 : (xs.map (·.1))[i]? = some (DataW.lit (.string z.data.toList) : DataW H) := by simp [hb]
        rw [hxs] at h2
        simp only [List.getElem?_map, Option.map_eq_some_iff, DataW.lit.injEq, Lit.string.injEq] at h2
        obtain ⟨z', hz', hz2⟩ := h2
        subst hz2
        simp [h1, hz']
      · rw [List.getElem?_eq_none (by omega), List.getElem?_eq_none (by simp; omega)]
    · cases h
def laidList : List (String × DataW Unit) := Rows.tokenSignsRow.laid
theorem errs_lt {W : World} {n : String} {g : Nat} {cs : Array Value} (hg : Tryz.prog.globalNamed n = some g) (h : W.var? Tryz.prog n = some cs) : g < W.heap.size := by
  unfold World.var? at h
  rw [hg, Option.bind_some] at h
  split at h
  · rename_i cs t fr hb
    exact (Array.getElem?_eq_some_iff.1 hb).1
  · cases h
theorem laid_tabs {W : World} (h : laidMetH Tryz.prog laidList W) : KeysOk W ∧ PowOk W ∧ ErrsOk W ∧ DigOk W := by
  rw [MakeChecks.laidMetH_plain _ _ _ (by kernel_rfl)] at h
  have h3 : laidMet Tryz.prog _ W := h.tail.tail
  have h5 : laidMet Tryz.prog _ W := h3.tail.tail
  have h6 : laidMet Tryz.prog _ W := h5.tail
  have h8 : laidMet Tryz.prog _ W := h6.tail
  have h7 : laidMet Tryz.prog _ W := h8.tail
  have t3 := Lib.tabIs_of_head (P := Tryz.prog) (W := W) (k := .u64) (zs := Lib.pow10Tab) (g := 3) (t := 166) (e := 78) (n := 20) (by kernel_rfl) (by kernel_rfl) Tryz.underlying166 Tryz.underlying78 (by kernel_rfl) (by kernel_rfl) h3
  have t4 := Lib.tabIs_of_head (P := Tryz.prog) (W := W) (k := .u8) (zs := [48, 49, 50, 51, 52, 53, 54, 55, 56, 57, 97, 98, 99, 100, 101, 102]) (g := 0) (t := 124) (e := 5) (n := 16) (by kernel_rfl) (by kernel_rfl) Tryz.underlying124 Tryz.underlying5 (by kernel_rfl) (by kernel_rfl) h8
  obtain ⟨td, fd, hbd⟩ := tab_block (g := 0) (by kernel_rfl) t4
  obtain ⟨a5, s5, hv5, _⟩ := laid_sentinel (g := 5) (te := 198) h5 (by kernel_rfl) (by kernel_rfl) Tryz.underlying121 row_es Tryz.underlying196 Tryz.underlying198 rfl rfl Tryz.underlying9 (by kernel_rfl) (by kernel_rfl)
  obtain ⟨a6, s6, hv6, _⟩ := laid_sentinel (g := 4) (te := 198) h6 (by kernel_rfl) (by kernel_rfl) Tryz.underlying121 row_es Tryz.underlying196 Tryz.underlying198 rfl rfl Tryz.underlying9 (by kernel_rfl) (by kernel_rfl)
  have hk : KeysOk W := by
    obtain ⟨ps, ⟨g', t', cs, fuel, p, q, hg', ht', hvar, hd, _, _⟩, _⟩ := h7
    have hg : Tryz.prog.globalNamed "identity/claims.keys" = some 1 := by kernel_rfl
    obtain rfl := Option.some.inj (hg.symm.trans hg')
    have hty : (Tryz.prog.globals[1]?).map (·.type) = some 132 := by kernel_rfl
    obtain rfl := Option.some.inj (hty.symm.trans ht')
    have hcs := cells_of_strs (zs := keysS.map (·.data.toList)) Tryz.underlying132 Tryz.underlying9 (by kernel_rfl) (by kernel_rfl) hd
    unfold World.var? at hvar
    simp only [hg, Option.bind_some] at hvar
    split at hvar
    · rename_i cs' t fr hb
      injection hvar with hvar
      refine ⟨t, fr, ?_⟩
      rw [hb, hvar]
      congr 2
      apply Array.toList_inj.1
      rw [hcs]
      rfl
    · cases hvar
  exact ⟨hk, ⟨⟨3, by kernel_rfl, tab_lt (by kernel_rfl) t3⟩, t3⟩, ⟨⟨_, _, hv6⟩, ⟨_, _, hv5⟩, errs_lt (by kernel_rfl) hv6, errs_lt (by kernel_rfl) hv5⟩, ⟨td, fd, hbd⟩⟩
/- The world that holds what is listed: it serves as the rows' witness. -/
set_option maxRecDepth 100000 in
theorem w_hv (os : Os) (args : Array Value) : ((World.laidAll Tryz.prog os laidList).forCall (fun _ _ => 0) ⟨#[], args, []⟩).variablesB Tryz.prog = true := by kernel_rfl
set_option maxRecDepth 100000 in
theorem w_hr (os : Os) (args : Array Value) : (((World.laidAll Tryz.prog os laidList).forCall (fun _ _ => 0) ⟨#[], args, []⟩).heap.toList.drop Tryz.prog.globals.size).take ((begin Tryz.prog (fun _ _ => 0) default).world.heap.size - Tryz.prog.globals.size) =
      (begin Tryz.prog (fun _ _ => 0) default).world.heap.toList.drop Tryz.prog.globals.size := by kernel_rfl
set_option maxRecDepth 100000 in
theorem w_laid (os : Os) (args : Array Value) : laidMet Tryz.prog laidList ((World.laidAll Tryz.prog os laidList).forCall (fun _ _ => 0) ⟨#[], args, []⟩).memory :=
  laidMet_laidAll args (by kernel_rfl) (by kernel_rfl)
end Go.Proofs.YtiiioefjdebggaaGreatDoor

/- Windows: clock.Check and its reference; clock.Add and identityref22.Limited. -/
namespace Go.Proofs.YtiiioefjdebggaaGreatDoor
open Go.RowKit

def skewT (k : Int) : Int := min (max k 0) 600
def windowE (f u t k : Int) : Int := if u < f then 2 else if limT t + skewT k < f then 14 else if u ≤ limT t - skewT k then 13 else 0
theorem limT_in (t : Int) : 0 ≤ limT t ∧ limT t ≤ 1099511627776 := by unfold limT; omega
theorem skewT_in (t : Int) : 0 ≤ skewT t ∧ skewT t ≤ 600 := by unfold skewT; omega
theorem rlimit_any (t : Int) (w : World) :
    Calls Tryz.prog 133 #[.int .i64 t] w fun e w' => e = .returned (.int .i64 (limT t)) ∧ w = w' := by
  go_enter Tryz.func133, Tryz.ntmps133
  go_wp2_with fail
  all_goals
    go_ret
    exact ⟨ret_int (by unfold limT; omega), rfl⟩
theorem cadd_any (t d : Int) (w : World) :
    Calls Tryz.prog 77 #[.int .i64 t, .int .i64 d] w fun e w' => e = .returned (.int .i64 (limT (limT t + limT d))) ∧ w = w' := by
  obtain ⟨a, HA⟩ : ∃ m, Hid (limT t = m) := ⟨_, Lib.hid rfl⟩
  obtain ⟨b, HB⟩ : ∃ m, Hid (limT d = m) := ⟨_, Lib.hid rfl⟩
  have ha := limT_in t
  have hb := limT_in d
  rw [HA.out] at ha
  rw [HB.out] at hb
  obtain ⟨ha1, ha2⟩ := ha
  obtain ⟨hb1, hb2⟩ := hb
  rw [HA.out, HB.out]
  go_enter Tryz.func77, Tryz.ntmps77
  go_wp2_with fail
  refine (climited_any t _).mono ?_
  rintro e wsame ⟨rfl, rfl⟩
  rw [HA.out]
  go_wp2_with fail
  refine (climited_any d _).mono ?_
  rintro e wsame ⟨rfl, rfl⟩
  rw [HB.out]
  go_wp2_with fail
  refine (climited_any (a + b) _).mono ?_
  rintro e wsame ⟨rfl, rfl⟩
  go_wp2_with fail
  go_ret
  exact ⟨rfl, rfl⟩
theorem skew_cases (k : Int) : (k < 0 ∧ skewT k = 0) ∨ (0 ≤ k ∧ k ≤ 600 ∧ skewT k = k) ∨ (600 < k ∧ skewT k = 600) := by unfold skewT; omega
set_option maxHeartbeats 2000000 in
theorem ccheck_any (f u t k : Int) (w : World) :
    Calls Tryz.prog 62 #[.agg #[.int .i64 f, .int .i64 u], .int .i64 t, .int .i64 k] w fun e w' => e = .returned (.int .i64 (windowE f u t k)) ∧ Below w.heap.size w w' := by
  have HE : Hid (∀ m s, limT t = m → skewT k = s → windowE f u t k = if u < f then 2 else if m + s < f then 14 else if u ≤ m - s then 13 else 0) := Lib.hid (fun m s h1 h2 => by rw [windowE, h1, h2])
  obtain ⟨m, HM⟩ : ∃ m, Hid (limT t = m) := ⟨_, Lib.hid rfl⟩
  have hm := limT_in t
  rw [HM.out] at hm
  obtain ⟨hm1, hm2⟩ := hm
  obtain ⟨V, HV⟩ : ∃ V, Hid (windowE f u t k = V) := ⟨_, Lib.hid rfl⟩
  rw [HV.out] at HE
  rw [HV.out]
  have HB : Hid (Below w.heap.size w (w.alloc (.cells #[.int .i64 f, .int .i64 u] 43))) := Lib.hid ((Below.refl _ _).alloc (Nat.le_refl _) _)
  rcases skew_cases k with ⟨hk, hs⟩ | ⟨hk, hk2, hs⟩ | ⟨hk, hs⟩
  all_goals
    have HG := Lib.hid (HE.out m _ HM.out hs)
    clear hs HE
    go_enter Tryz.func62, Tryz.ntmps62
    go_wp2_with fail
    refine (climited_any t _).mono ?_
    rintro e wsame ⟨rfl, rfl⟩
    rw [HM.out]
    go_wp2_with fail
    all_goals
      go_ret
      exact ⟨ret_int (by rw [HG.out]; first | (rw [if_pos (by omega)]) | (rw [if_neg (by omega), if_pos (by omega)]) | (rw [if_neg (by omega), if_neg (by omega), if_pos (by omega)]) | (rw [if_neg (by omega), if_neg (by omega), if_neg (by omega)])), HB.out⟩
theorem quiet_lim {t m : Int} (h : limT t = m) {w : World} {n : Nat} : Calls Tryz.prog 133 #[.int .i64 t] (w.drewN n) fun e w'' => e = .returned (.int .i64 m) ∧ ∃ m, w'' = w.drewN m := by
  subst h; exact (rlimit_any t (w.drewN n)).mono fun _ _ ⟨he, hm⟩ => ⟨he, n, hm.symm⟩
theorem quiet_lim2 {t m : Int} (h : limT t = m) {w : World} {a n : Nat} : Calls Tryz.prog 133 #[.int .i64 t] (w.drewN (a + n)) fun e w'' => e = .returned (.int .i64 m) ∧ ∃ m, w'' = w.drewN (a + m) := by
  subst h; exact (rlimit_any t (w.drewN (a + n))).mono fun _ _ ⟨he, hm⟩ => ⟨he, n, hm.symm⟩
theorem below_drewN' {B : Nat} {a w : World} (h : Below B a w) (n : Nat) : Below B a (w.drewN n) := ⟨h.os, h.tape, h.output, h.size, h.block⟩
theorem skew_max (k : Int) : max 0 (min k 600) = skewT k := by unfold skewT; omega
set_option maxHeartbeats 2000000 in
theorem rccheck_any (f u t k : Int) (w : World) :
    Calls Tryz.prog 95 #[.agg #[.int .i64 f, .int .i64 u], .int .i64 t, .int .i64 k] w fun e w' => e = .returned (.int .i64 (windowE f u t k)) ∧ Below w.heap.size w w' := by
  have hm := limT_in t
  have HG : Hid (∀ m, limT t = m → windowE f u t k = if u < f then 2 else if m + max 0 (min k 600) < f then 14 else if u ≤ m - max 0 (min k 600) then 13 else 0) := Lib.hid (fun m h1 => by rw [windowE, h1, skew_max])
  obtain ⟨m, HM⟩ : ∃ m, Hid (limT t = m) := ⟨_, Lib.hid rfl⟩
  rw [HM.out] at hm
  obtain ⟨hm1, hm2⟩ := hm
  have HG2 := Lib.hid (HG.out m HM.out)
  clear HG
  obtain ⟨V, HV⟩ : ∃ V, Hid (windowE f u t k = V) := ⟨_, Lib.hid rfl⟩
  rw [HV.out] at HG2
  rw [HV.out]
  have HB : Hid (Below w.heap.size w (w.alloc (.cells #[.int .i64 f, .int .i64 u] 43))) := Lib.hid ((Below.refl _ _).alloc (Nat.le_refl _) _)
  by_cases h1 : u < f
  · have hG : Hid (V = 2) := Lib.hid (by rw [HG2.out, if_pos h1])
    go_enter Tryz.func95, Tryz.ntmps95
    go_wp2_with fail
    go_ret
    exact ⟨ret_int hG.out.symm, HB.out⟩
  · by_cases h2 : m + max 0 (min k 600) < f
    · have hG : Hid (V = 14) := Lib.hid (by rw [HG2.out, if_neg h1, if_pos h2])
      go_enter Tryz.func95, Tryz.ntmps95
      go_wp2_with fail
      go_quiet ((go_at_call 133; exact quiet_lim HM.out))
      go_wp2_with fail
      go_ret
      exact ⟨ret_int hG.out.symm, below_drewN' HB.out _⟩
    · by_cases h3 : u ≤ m - max 0 (min k 600)
      · have hG : Hid (V = 13) := Lib.hid (by rw [HG2.out, if_neg h1, if_neg h2, if_pos h3])
        go_enter Tryz.func95, Tryz.ntmps95
        go_wp2_with fail
        go_quiet ((go_at_call 133; exact quiet_lim HM.out))
        go_wp2_with fail
        go_quiet ((go_at_call 133; first | exact quiet_lim2 HM.out | exact quiet_lim HM.out))
        go_wp2_with fail
        go_ret
        exact ⟨ret_int hG.out.symm, below_drewN' (below_drewN' HB.out _) _⟩
      · have hG : Hid (V = 0) := Lib.hid (by rw [HG2.out, if_neg h1, if_neg h2, if_neg h3])
        go_enter Tryz.func95, Tryz.ntmps95
        go_wp2_with fail
        go_quiet ((go_at_call 133; exact quiet_lim HM.out))
        go_wp2_with fail
        go_quiet ((go_at_call 133; first | exact quiet_lim2 HM.out | exact quiet_lim HM.out))
        go_wp2_with fail
        go_ret
        exact ⟨ret_int hG.out.symm, below_drewN' (below_drewN' HB.out _) _⟩
end Go.Proofs.YtiiioefjdebggaaGreatDoor

/- The order of strings: '<=' is the opposite of the other way's '<'. -/
namespace Go.Proofs.YtiiioefjdebggaaGreatDoor
open Go.RowKit

theorem less_total : ∀ a b : List UInt8, (Op.bytesLess b a || b == a) = !(Op.bytesLess a b) := by
  intro a
  induction a with
  | nil =>
    intro b
    cases b with
    | nil => rfl
    | cons y b => simp [Op.bytesLess]
  | cons x a ih =>
    intro b
    cases b with
    | nil => simp [Op.bytesLess]
    | cons y b =>
      have h := ih b
      simp only [Op.bytesLess]
      by_cases h1 : x < y
      · have h2 : ¬ y < x := by rw [UInt8.lt_iff_toNat_lt] at *; omega
        have h3 : ¬ y = x := fun e => by subst e; exact h2 h1
        simp [h1, h2, h3]
      · by_cases h2 : y < x
        · have h3 : ¬ x = y := fun e => by subst e; exact h1 h2
          simp [h1, h2, h3]
        · have h3 : x = y := by
            rw [UInt8.lt_iff_toNat_lt] at h1 h2
            exact UInt8.toNat_inj.1 (by omega)
          subst h3
          simpa [h1] using h
theorem leq_ord (p s : ByteArray) : (Op.bytesLess s.toList p.toList || s.toList == p.toList) = !(ordB p s) := less_total p.toList s.toList
end Go.Proofs.YtiiioefjdebggaaGreatDoor

/- Plain: Allow, Narrow, Act and Equal of claims. -/
namespace Go.Proofs.YtiiioefjdebggaaGreatDoor
open Go.RowKit

/-- Equal claims. -/
def eqB (a b : Cl) : Bool := decide (a.kind = b.kind) && decide (a.issuer = b.issuer) && decide (a.subject = b.subject) && decide (a.client = b.client) && decide (a.tenant = b.tenant) && decide (a.id = b.id) && decide (a.session = b.session) && decide (a.nonce = b.nonce) && decide (a.aud = b.aud) && decide (a.sco = b.sco) && decide (a.act = b.act) && decide (a.issued = b.issued) && decide (a.nb = b.nb) && decide (a.exp = b.exp) && decide (a.auth = b.auth) && decide (a.level = b.level)
theorem eqB_iff (a b : Cl) : eqB a b = true ↔ a = b := by
  constructor
  · intro h
    simp only [eqB, Bool.and_eq_true, decide_eq_true_eq] at h
    obtain ⟨⟨⟨⟨⟨⟨⟨⟨⟨⟨⟨⟨⟨⟨⟨h0, h1⟩, h2⟩, h3⟩, h4⟩, h5⟩, h6⟩, h7⟩, h8⟩, h9⟩, h10⟩, h11⟩, h12⟩, h13⟩, h14⟩, h15⟩ := h
    cases a; cases b
    simp only at h0 h1 h2 h3 h4 h5 h6 h7 h8 h9 h10 h11 h12 h13 h14 h15
    subst h0; subst h1; subst h2; subst h3; subst h4; subst h5; subst h6; subst h7; subst h8; subst h9; subst h10; subst h11; subst h12; subst h13; subst h14; subst h15
    rfl
  · rintro rfl
    simp [eqB]
theorem eqB_self (a : Cl) : eqB a a = true := (eqB_iff a a).2 rfl
/-- What a receiver expects. -/
structure Ex where
  kind : ByteArray
  issuer : ByteArray
  aud : ByteArray
  tenant : ByteArray
  now : Int
  skew : Int
def allowE (c : Cl) (x : Ex) : Int :=
  if c.kind = x.kind then (if c.issuer = x.issuer then (if c.tenant = x.tenant then (if memB c.aud x.aud = true then windowE c.nb c.exp x.now x.skew else 15) else 32) else 16) else 2
theorem allow_ok {c : Cl} {x : Ex} (h : allowE c x = 0) : c.kind = x.kind ∧ c.issuer = x.issuer ∧ c.tenant = x.tenant ∧ memB c.aud x.aud = true ∧ windowE c.nb c.exp x.now x.skew = 0 := by
  rw [allowE] at h
  split at h
  · split at h
    · split at h
      · split at h
        · exact ⟨by assumption, by assumption, by assumption, by assumption, h⟩
        · cases h
      · cases h
    · cases h
  · cases h
theorem window_ok {f u t k : Int} (h : windowE f u t k = 0) : f ≤ u ∧ f ≤ limT t + skewT k ∧ limT t - skewT k < u := by
  rw [windowE] at h
  split at h
  · cases h
  · split at h
    · cases h
    · split at h
      · cases h
      · omega
/-- The elements of a that are in b. -/
def amongL (a b : List ByteArray) : List ByteArray := a.filter (memB b)
def allIn (a b : List ByteArray) : Bool := a.all (memB b)
def narE (c : Cl) (sc au : List ByteArray) (e : Int) : Int :=
  if checkE c = 0 then (if allIn sc c.sco = true then (if au.length ≠ 0 ∧ allIn au c.aud = true then (if c.exp < limT e ∨ limT e < c.issued ∨ limT e < c.nb then 27 else 0) else 15) else 19) else checkE c
def narC (c : Cl) (sc au : List ByteArray) (e : Int) : Cl := ⟨c.kind, c.issuer, c.subject, c.client, c.tenant, c.id, c.session, c.nonce, amongL c.aud au, amongL c.sco sc, c.act, c.issued, c.nb, limT e, c.auth, c.level⟩
def narV (c : Cl) (sc au : List ByteArray) (e : Int) : Cl := if narE c sc au e = 0 then narC c sc au e else cl0
def actEr (c : Cl) (a : ByteArray) : Int :=
  if checkE c = 0 then (if cleanS a = true then (if a = c.subject ∨ memB c.act a = true then 28 else (if 4 ≤ c.act.length then 3 else 0)) else 5) else checkE c
def actC (c : Cl) (a : ByteArray) : Cl := ⟨c.kind, c.issuer, c.subject, c.client, c.tenant, c.id, c.session, c.nonce, c.aud, c.sco, c.act ++ [a], c.issued, c.nb, c.exp, c.auth, c.level⟩
def actV (c : Cl) (a : ByteArray) : Cl := if actEr c a = 0 then actC c a else cl0
theorem nar_ok {c : Cl} {sc au : List ByteArray} {e : Int} (h : narE c sc au e = 0) : checkE c = 0 ∧ allIn sc c.sco = true ∧ au.length ≠ 0 ∧ allIn au c.aud = true ∧ limT e ≤ c.exp ∧ c.issued ≤ limT e ∧ c.nb ≤ limT e ∧ narV c sc au e = narC c sc au e := by
  have h0 := h
  rw [narE] at h
  split at h
  · split at h
    · split at h
      · rename_i hau
        split at h
        · cases h
        · exact ⟨by assumption, by assumption, hau.1, hau.2, by omega, by omega, by omega, by rw [narV, if_pos h0]⟩
      · cases h
    · cases h
  · contradiction
theorem act_ok {c : Cl} {a : ByteArray} (h : actEr c a = 0) : checkE c = 0 ∧ cleanS a = true ∧ c.act.length < 4 ∧ actV c a = actC c a := by
  have h0 := h
  rw [actEr] at h
  split at h
  · split at h
    · split at h
      · cases h
      · split at h
        · cases h
        · exact ⟨by assumption, by assumption, by omega, by rw [actV, if_pos h0]⟩
    · cases h
  · contradiction
theorem allIn_mem {a b : List ByteArray} (h : allIn a b = true) : ∀ x ∈ a, x ∈ b := fun x hx => (memB_iff b x).1 (List.all_eq_true.1 h x hx)
theorem allIn_of {a b : List ByteArray} (h : ∀ x ∈ a, x ∈ b) : allIn a b = true := List.all_eq_true.2 fun x hx => (memB_iff b x).2 (h x hx)
theorem among_mem {a b : List ByteArray} {x : ByteArray} (h : x ∈ amongL a b) : x ∈ a ∧ x ∈ b := by
  rw [amongL, List.mem_filter] at h
  exact ⟨h.1, (memB_iff b x).1 h.2⟩
theorem among_self (a : List ByteArray) : amongL a a = a := List.filter_eq_self.2 fun x hx => (memB_iff a x).2 hx
theorem among_idem (a b : List ByteArray) : amongL (amongL a b) (amongL a b) = amongL a b := among_self _
theorem among_len (a b : List ByteArray) : (amongL a b).length ≤ a.length := List.length_filter_le _ _
/-- The audience of a part. -/
theorem aud_sub (f : ByteArray → Bool) : ∀ (l pre pre2 : List ByteArray), (∀ x ∈ pre2, x ∈ pre) → audF pre l = 0 → audF pre2 (l.filter f) = 0
  | [], _, _, _, _ => rfl
  | x :: l, pre, pre2, hp, h => by
    rw [audF] at h
    split at h
    · rename_i hw
      split at h
      · cases h
      · rename_i hm
        by_cases hf : f x = true
        · rw [List.filter_cons_of_pos hf, audF, if_pos hw, if_neg]
          · refine aud_sub f l (pre ++ [x]) (pre2 ++ [x]) (fun y hy => ?_) h
            rcases List.mem_append.1 hy with hy | hy
            · exact List.mem_append.2 (.inl (hp y hy))
            · exact List.mem_append.2 (.inr hy)
          · intro hm2
            exact hm ((memB_iff _ _).2 (hp x ((memB_iff _ _).1 hm2)))
        · rw [List.filter_cons_of_neg hf]
          exact aud_sub f l (pre ++ [x]) pre2 (fun y hy => List.mem_append.2 (.inl (hp y hy))) h
    · cases h
theorem less_trans : ∀ a b c : List UInt8, Op.bytesLess a b = true → Op.bytesLess b c = true → Op.bytesLess a c = true := by
  intro a
  induction a with
  | nil =>
    intro b c h1 h2
    cases b with
    | nil => simp [Op.bytesLess] at h1
    | cons y b =>
      cases c with
      | nil => simp [Op.bytesLess] at h2
      | cons z c => simp [Op.bytesLess]
  | cons x a ih =>
    intro b c h1 h2
    cases b with
    | nil => simp [Op.bytesLess] at h1
    | cons y b =>
      cases c with
      | nil => simp [Op.bytesLess] at h2
      | cons z c =>
        have i := ih b c
        simp only [Op.bytesLess, Bool.or_eq_true, Bool.and_eq_true, decide_eq_true_eq, beq_iff_eq, UInt8.lt_iff_toNat_lt] at h1 h2 ⊢
        rcases h1 with h1 | ⟨rfl, h1⟩
        · rcases h2 with h2 | ⟨rfl, h2⟩
          · exact .inl (by omega)
          · exact .inl h1
        · rcases h2 with h2 | ⟨rfl, h2⟩
          · exact .inl h2
          · exact .inr ⟨rfl, i h1 h2⟩
theorem ord_trans {a b c : ByteArray} (h1 : ordB a b = true) (h2 : ordB b c = true) : ordB a c = true := less_trans _ _ _ h1 h2
theorem sco_sub (f : ByteArray → Bool) : ∀ (l : List ByteArray) (o o2 : Option ByteArray), (∀ p, o2 = some p → ∃ q, o = some q ∧ (p = q ∨ ordB p q = true)) → scoF o l = 0 → scoF o2 (l.filter f) = 0
  | [], _, o2, _, _ => by cases o2 <;> rfl
  | x :: l, o, o2, ho, h => by
    have hx : wordS x = true ∧ scoF (some x) l = 0 ∧ ∀ q, o = some q → ordB q x = true := by
      cases o with
      | none =>
        rw [scoF] at h
        split at h
        · exact ⟨by assumption, h, fun q hq => by cases hq⟩
        · cases h
      | some q =>
        rw [scoF] at h
        split at h
        · split at h
          · exact ⟨by assumption, h, fun q hq => by cases hq; assumption⟩
          · cases h
        · cases h
    obtain ⟨hw, hr, hq⟩ := hx
    have hp : ∀ p, o2 = some p → ordB p x = true := fun p e => by
      obtain ⟨q, e2, hh⟩ := ho p e
      rcases hh with rfl | hh
      · exact hq _ e2
      · exact ord_trans hh (hq _ e2)
    by_cases hf : f x = true
    · rw [List.filter_cons_of_pos hf]
      have ih := sco_sub f l (some x) (some x) (fun p e => ⟨x, rfl, .inl (by cases e; rfl)⟩) hr
      cases o2 with
      | none => rw [scoF, if_pos hw]; exact ih
      | some p => rw [scoF, if_pos hw, if_pos (hp p rfl)]; exact ih
    · rw [List.filter_cons_of_neg hf]
      exact sco_sub f l (some x) o2 (fun p e => ⟨x, rfl, .inr (hp p e)⟩) hr
theorem nar_check {c : Cl} {sc au : List ByteArray} {e : Int} (h : narE c sc au e = 0) : checkE (narC c sc au e) = 0 := by
  obtain ⟨h1, h2, h3, h4, h5, h6, h7, _⟩ := nar_ok h
  obtain ⟨n, a, s, t, tm, l1, l2⟩ := check_ok h1
  have hl := limT_in e
  have a2 : audE (amongL c.aud au) = 0 := by
    rw [audE] at a ⊢
    split at a
    · cases a
    · split at a
      · cases a
      · have := among_len c.aud au
        rw [if_neg, if_neg (by omega)]
        · exact aud_sub _ _ [] [] (fun _ h => h) a
        · intro h0
          obtain ⟨x, hx⟩ : ∃ x, x ∈ au := by
            cases au with
            | nil => exact absurd rfl h3
            | cons x r => exact ⟨x, by simp⟩
          have : x ∈ amongL c.aud au := by
            rw [amongL, List.mem_filter]
            exact ⟨allIn_mem h4 x hx, (memB_iff _ _).2 hx⟩
          rw [List.eq_nil_of_length_eq_zero h0] at this
          simp at this
  have s2 : scoE (amongL c.sco sc) = 0 := by
    rw [scoE] at s ⊢
    split at s
    · cases s
    · have := among_len c.sco sc
      rw [if_neg (by omega)]
      exact sco_sub _ _ none none (fun p e => by cases e) s
  have tm2 : timeB (narC c sc au e) = true := by
    rw [timeB] at tm ⊢
    simp only [Bool.and_eq_true, validT, decide_eq_true_iff] at tm ⊢
    obtain ⟨⟨⟨⟨t0, t1⟩, t2⟩, t3⟩, _⟩ := tm
    exact ⟨⟨⟨⟨t0, t1⟩, hl⟩, t3⟩, h6, h7⟩
  have li : listE (narC c sc au e) = 0 := by
    rw [listE]
    show (if audE (amongL c.aud au) = 0 then (if scoE (amongL c.sco sc) = 0 then actE c.act else scoE (amongL c.sco sc)) else audE (amongL c.aud au)) = 0
    rw [if_pos a2, if_pos s2, t]
  rw [checkE, if_pos (show nameB (narC c sc au e) = true from n), if_pos li, if_pos tm2]
  exact if_pos ⟨l1, l2⟩
theorem lim_self {t : Int} (h : 0 ≤ t ∧ t ≤ 1099511627776) : limT t = t := by unfold limT; omega
theorem lim_lim (t : Int) : limT (limT t) = limT t := lim_self (limT_in t)
/-- Narrow of the result to what it has. -/
theorem nar_again {c : Cl} {sc au : List ByteArray} {e : Int} (h : narE c sc au e = 0) : narE (narC c sc au e) (amongL c.sco sc) (amongL c.aud au) (limT e) = 0 ∧ narV (narC c sc au e) (amongL c.sco sc) (amongL c.aud au) (limT e) = narC c sc au e := by
  have hc := nar_check h
  obtain ⟨h1, h2, h3, h4, h5, h6, h7, _⟩ := nar_ok h
  have hl : (amongL c.aud au).length ≠ 0 := by
    obtain ⟨_, a, _⟩ := check_ok hc
    intro h0
    have a : audE (amongL c.aud au) = 0 := a
    rw [audE, if_pos h0] at a
    cases a
  have e1 : narE (narC c sc au e) (amongL c.sco sc) (amongL c.aud au) (limT e) = 0 := by
    rw [narE, if_pos hc]
    rw [if_pos (show allIn (amongL c.sco sc) (narC c sc au e).sco = true from allIn_of fun _ h => h)]
    rw [if_pos (show (amongL c.aud au).length ≠ 0 ∧ allIn (amongL c.aud au) (narC c sc au e).aud = true from ⟨hl, allIn_of fun _ h => h⟩)]
    rw [lim_lim]
    exact if_neg (by show ¬ (limT e < limT e ∨ limT e < c.issued ∨ limT e < c.nb); omega)
  refine ⟨e1, ?_⟩
  rw [narV, if_pos e1]
  show Cl.mk _ _ _ _ _ _ _ _ (amongL (amongL c.aud au) (amongL c.aud au)) (amongL (amongL c.sco sc) (amongL c.sco sc)) _ _ _ (limT (limT e)) _ _ = _
  rw [among_idem, among_idem, lim_lim]
  rfl
theorem act_check {c : Cl} {a : ByteArray} (h : actEr c a = 0) : checkE (actC c a) = 0 := by
  obtain ⟨h1, h2, h3, _⟩ := act_ok h
  obtain ⟨n, au, s, t, tm, l1, l2⟩ := check_ok h1
  have hs : ∀ l : List ByteArray, actF l = 0 → actF (l ++ [a]) = 0 := by
    intro l
    induction l with
    | nil => intro _; rw [List.nil_append, actF, if_pos h2]; rfl
    | cons x l ih =>
      intro h
      rw [actF] at h
      split at h
      · rename_i hx
        rw [List.cons_append, actF, if_pos hx]
        exact ih h
      · cases h
  have t2 : actE (c.act ++ [a]) = 0 := by
    rw [actE] at t ⊢
    rw [if_neg (by omega)] at t
    rw [if_neg (by simp; omega)]
    exact hs _ t
  have li : listE (actC c a) = 0 := by
    rw [listE]
    show (if audE c.aud = 0 then (if scoE c.sco = 0 then actE (c.act ++ [a]) else scoE c.sco) else audE c.aud) = 0
    rw [if_pos au, if_pos s, t2]
  rw [checkE, if_pos (show nameB (actC c a) = true from n), if_pos li, if_pos (show timeB (actC c a) = true from tm)]
  exact if_pos ⟨l1, l2⟩
end Go.Proofs.YtiiioefjdebggaaGreatDoor

/- Keys: plain data, and what Check, Signing and Accepting say of them. -/
namespace Go.Proofs.YtiiioefjdebggaaGreatDoor
open Go.RowKit

/-- A key. -/
structure Ky where
  id : ByteArray
  sec : ByteArray
  sf : Int
  su : Int
  af : Int
  au : Int
def ky0 : Ky := ⟨ByteArray.empty, ByteArray.empty, 0, 0, 0, 0⟩
instance : Inhabited Ky := ⟨ky0⟩
def kyV (k : Ky) : Value := .agg #[.string k.id, .string k.sec, .int .i64 k.sf, .int .i64 k.su, .int .i64 k.af, .int .i64 k.au]
def kyC (k : Ky) : List Value := [.string k.id, .string k.sec, .int .i64 k.sf, .int .i64 k.su, .int .i64 k.af, .int .i64 k.au]
def kyO (k : Ky) : Obj := .cells #[.string k.id, .string k.sec, .int .i64 k.sf, .int .i64 k.su, .int .i64 k.af, .int .i64 k.au] 45 (0, 0)
theorem Ky.eq {a b : Ky} (h1 : a.id = b.id) (h2 : a.sec = b.sec) (h3 : a.sf = b.sf) (h4 : a.su = b.su) (h5 : a.af = b.af) (h6 : a.au = b.au) : a = b := by
  cases a; cases b; simp_all
/-- The windows of a key. -/
def winB (k : Ky) : Bool := decide (0 ≤ k.af ∧ k.af ≤ k.sf ∧ k.sf ≤ k.su ∧ k.su ≤ k.au ∧ k.au ≤ 1099511627776 ∧ k.af < k.au)
def hasK (l : List Ky) (id : ByteArray) : Bool := l.any fun k => decide (k.id = id)
theorem hasK_iff (l : List Ky) (id : ByteArray) : hasK l id = true ↔ ∃ k ∈ l, k.id = id := by
  rw [hasK, List.any_eq_true]
  constructor
  · rintro ⟨x, hx, h⟩
    rw [decide_eq_true_iff] at h
    exact ⟨x, hx, h⟩
  · rintro ⟨x, hx, h⟩
    exact ⟨x, hx, decide_eq_true h⟩
theorem hasK_no {l : List Ky} {id : ByteArray} (h : ∀ i, (hi : i < l.length) → l[i].id ≠ id) : hasK l id = false := by
  rw [Bool.eq_false_iff]
  intro e
  obtain ⟨k, hk, e⟩ := (hasK_iff l id).1 e
  obtain ⟨i, hi, rfl⟩ := List.getElem_of_mem hk
  exact h i hi e
theorem hasK_yes {l : List Ky} {id : ByteArray} (i : Nat) (hi : i < l.length) (h : l[i].id = id) : hasK l id = true := (hasK_iff l id).2 ⟨_, List.getElem_mem hi, h⟩
def kyE (pre : List Ky) (k : Ky) : Int := if wordS k.id = true then (if cleanS k.sec = true then (if hasK pre k.id = true then 7 else (if winB k = true then 0 else 2)) else 4) else 5
def kysF : List Ky → List Ky → Int
  | _, [] => 0
  | pre, k :: l => if kyE pre k = 0 then kysF (pre ++ [k]) l else kyE pre k
/-- keys.Check. -/
def keysE (l : List Ky) : Int := if 16 < l.length then 3 else kysF [] l
/-- The loop over the keys. -/
def KysLoop (l : List Ky) (k : Nat) : Prop := kysF [] l = kysF (l.take k) (l.drop k)
theorem KysLoop.zero (l : List Ky) : KysLoop l 0 := rfl
theorem KysLoop.bad {l : List Ky} {k : Nat} (h : KysLoop l k) (hk : k < l.length) (he : kyE (l.take k) l[k] ≠ 0) : kysF [] l = kyE (l.take k) l[k] := by
  rw [h, List.drop_eq_getElem_cons hk, kysF, if_neg he]
theorem KysLoop.next {l : List Ky} {k : Nat} (h : KysLoop l k) (hk : k < l.length) (he : kyE (l.take k) l[k] = 0) : KysLoop l (k + 1) := by
  rw [KysLoop, h, List.drop_eq_getElem_cons hk, kysF, if_pos he, List.take_succ_eq_append_getElem hk]
theorem KysLoop.done {l : List Ky} (h : KysLoop l l.length) : kysF [] l = 0 := by rw [h, List.drop_length, kysF]
theorem kysF_zero : ∀ (l pre : List Ky), kysF pre l = 0 → ∀ i, (hi : i < l.length) → kyE (pre ++ l.take i) l[i] = 0
  | [], _, _, i, hi => absurd hi (Nat.not_lt_zero _)
  | k :: l, pre, h, i, hi => by
    rw [kysF] at h
    by_cases he : kyE pre k = 0
    · rw [if_pos he] at h
      cases i with
      | zero => simpa using he
      | succ i =>
        have := kysF_zero l (pre ++ [k]) h i (by simpa using hi)
        simpa using this
    · rw [if_neg he] at h; exact absurd h he
theorem kyE_zero {pre : List Ky} {k : Ky} (h : kyE pre k = 0) : wordS k.id = true ∧ cleanS k.sec = true ∧ hasK pre k.id = false ∧ winB k = true := by
  rw [kyE] at h
  split at h
  · split at h
    · split at h
      · omega
      · split at h
        · rename_i h1 h2 h3 h4
          exact ⟨h1, h2, by simpa using h3, h4⟩
        · omega
    · omega
  · omega
theorem kyE_mk {pre : List Ky} {k : Ky} (h1 : wordS k.id = true) (h2 : cleanS k.sec = true) (h3 : hasK pre k.id = false) (h4 : winB k = true) : kyE pre k = 0 := by
  rw [kyE, if_pos h1, if_pos h2, if_neg (by rw [h3]; decide), if_pos h4]
theorem keysE_zero {l : List Ky} (h : keysE l = 0) : l.length ≤ 16 ∧ ∀ i, (hi : i < l.length) → kyE (l.take i) l[i] = 0 := by
  rw [keysE] at h
  split at h
  · omega
  · exact ⟨by omega, fun i hi => by simpa using kysF_zero l [] h i hi⟩
theorem kysF_mk : ∀ (l pre : List Ky), (∀ i, (hi : i < l.length) → kyE (pre ++ l.take i) l[i] = 0) → kysF pre l = 0
  | [], _, _ => rfl
  | k :: l, pre, h => by
    have h0 := h 0 (by simp)
    simp at h0
    rw [kysF, if_pos h0]
    refine kysF_mk l _ (fun i hi => ?_)
    have := h (i + 1) (by simpa using hi)
    simpa using this
theorem keysE_mk {l : List Ky} (h0 : l.length ≤ 16) (h : ∀ i, (hi : i < l.length) → kyE (l.take i) l[i] = 0) : keysE l = 0 := by
  rw [keysE, if_neg (by omega)]
  exact kysF_mk l [] (fun i hi => by simpa using h i hi)
/-- The first key with an identifier. -/
def findK (l : List Ky) (id : ByteArray) : Option Ky := l.find? fun k => decide (k.id = id)
theorem findK_none {l : List Ky} {id : ByteArray} (h : ∀ i, (hi : i < l.length) → l[i].id ≠ id) : findK l id = none := by
  rw [findK, List.find?_eq_none]
  intro k hk
  obtain ⟨i, hi, rfl⟩ := List.getElem_of_mem hk
  simpa using h i hi
theorem findK_some {l : List Ky} {id : ByteArray} {i : Nat} (hi : i < l.length) (h : l[i].id = id) (hn : ∀ j, (hj : j < i) → (l[j]'(by omega)).id ≠ id) : findK l id = some l[i] := by
  rw [findK, List.find?_eq_some_iff_getElem]
  refine ⟨by simpa using h, i, hi, rfl, fun j hj => ?_⟩
  simpa using hn j hj
theorem findK_has {l : List Ky} {id : ByteArray} {k : Ky} (h : findK l id = some k) : k ∈ l ∧ k.id = id := by
  rw [findK] at h
  exact ⟨List.mem_of_find?_eq_some h, by simpa using List.find?_some h⟩
/-- In a checked ring a key is found by its identifier. -/
theorem findK_mem {l : List Ky} (h : keysE l = 0) {k : Ky} (hk : k ∈ l) : findK l k.id = some k := by
  obtain ⟨i, hi, rfl⟩ := List.getElem_of_mem hk
  refine findK_some hi rfl (fun j hj e => ?_)
  have := (kyE_zero ((keysE_zero h).2 i hi)).2.2.1
  rw [← Bool.not_eq_true] at this
  refine this ((hasK_iff _ _).2 ⟨l[j], ?_, e⟩)
  rw [List.mem_take_iff_getElem]
  exact ⟨j, by omega, rfl⟩
/-- The index of the first key with an identifier, or -1. -/
def findI (l : List Ky) (id : ByteArray) : Int := if hasK l id = true then (l.findIdx (fun k => decide (k.id = id)) : Int) else -1
theorem findI_no {l : List Ky} {id : ByteArray} (h : hasK l id = false) : findI l id = -1 := by rw [findI, if_neg (by rw [h]; decide)]
theorem findI_at {l : List Ky} {id : ByteArray} {i : Nat} (hi : i < l.length) (h : l[i].id = id) (hn : ∀ j, (hj : j < i) → (l[j]'(by omega)).id ≠ id) : findI l id = i := by
  rw [findI, if_pos (hasK_yes i hi h)]
  have : l.findIdx (fun k => decide (k.id = id)) = i := by
    rw [List.findIdx_eq hi]
    exact ⟨by simpa using h, fun j hj => by simpa using hn j hj⟩
  rw [this]
theorem findI_cases (l : List Ky) (id : ByteArray) : (findI l id = -1 ∧ hasK l id = false ∧ findK l id = none) ∨ ∃ i, ∃ hi : i < l.length, findI l id = (i : Int) ∧ hasK l id = true ∧ findK l id = some l[i] ∧ l[i].id = id := by
  cases hh : hasK l id with
  | false =>
    refine .inl ⟨findI_no hh, rfl, findK_none (fun i hi e => ?_)⟩
    rw [hasK_yes i hi e] at hh
    cases hh
  | true =>
    obtain ⟨k, hk, e⟩ := (hasK_iff l id).1 hh
    have hx : l.findIdx (fun k => decide (k.id = id)) < l.length := List.findIdx_lt_length_of_exists ⟨k, hk, by simpa using e⟩
    refine .inr ⟨_, hx, by rw [findI, if_pos hh], rfl, ?_, ?_⟩
    · refine findK_some hx ?_ (fun j hj => ?_)
      · have := List.findIdx_getElem (w := hx); simpa using this
      · have := List.not_of_lt_findIdx hj; simpa using this
    · have := List.findIdx_getElem (w := hx); simpa using this
/-- keys.Accepting. -/
def accE (l : List Ky) (id : ByteArray) (t s : Int) : Int := match findK l id with
  | none => 26
  | some k => windowE k.af k.au t s
def accV (l : List Ky) (id : ByteArray) (t s : Int) : Ky := match findK l id with
  | none => ky0
  | some k => if windowE k.af k.au t s = 0 then k else ky0
theorem accK_none {l : List Ky} {id : ByteArray} (h : findK l id = none) (t s : Int) : accE l id t s = 26 ∧ accV l id t s = ky0 := by rw [accE, accV, h]; exact ⟨rfl, rfl⟩
theorem accK_some {l : List Ky} {id : ByteArray} {k : Ky} (h : findK l id = some k) (t s : Int) : accE l id t s = windowE k.af k.au t s ∧ accV l id t s = if windowE k.af k.au t s = 0 then k else ky0 := by rw [accE, accV, h]; exact ⟨rfl, rfl⟩
/-- Does a key sign at t? -/
def inW (f u t : Int) : Bool := decide (f ≤ limT t ∧ limT t < u)
/-- Does k sign rather than b? -/
def betK (b k : Ky) : Bool := decide (b.sf < k.sf) || (decide (b.sf = k.sf) && ordB b.id k.id)
def sigPick (o : Option Ky) (k : Ky) : Option Ky := match o with
  | none => some k
  | some b => if betK b k = true then some k else some b
def sigStep (t : Int) (o : Option Ky) (k : Ky) : Option Ky := if inW k.sf k.su t = true then sigPick o k else o
def sigF (t : Int) (l : List Ky) : Option Ky := l.foldl (sigStep t) none
theorem sigF_snoc (t : Int) (l : List Ky) {k : Nat} (hk : k < l.length) : sigF t (l.take (k + 1)) = sigStep t (sigF t (l.take k)) l[k] := by
  rw [List.take_succ_eq_append_getElem hk, sigF, List.foldl_append]; rfl
theorem sigF_mem (t : Int) : ∀ (l : List Ky) (k : Ky), sigF t l = some k → k ∈ l := by
  have key : ∀ (l : List Ky) (o : Option Ky) (k : Ky), l.foldl (sigStep t) o = some k → k ∈ l ∨ o = some k := by
    intro l
    induction l with
    | nil => intro o k h; exact .inr h
    | cons x l ih =>
      intro o k h
      rcases ih _ _ h with h1 | h1
      · exact .inl (List.mem_cons_of_mem _ h1)
      · rw [sigStep] at h1
        split at h1
        · cases o with
          | none =>
            injection h1 with h1
            exact .inl (h1 ▸ List.mem_cons_self)
          | some b =>
            rw [sigPick] at h1
            split at h1
            · injection h1 with h1
              exact .inl (h1 ▸ List.mem_cons_self)
            · exact .inr h1
        · exact .inr h1
  intro l k h
  rcases key l none k h with h1 | h1
  · exact h1
  · cases h1
/-- keys.Signing. -/
def sigO (l : List Ky) (t : Int) : Option Ky := if keysE l = 0 then sigF t l else none
theorem limT_twice (t : Int) : limT (limT t) = limT t := by unfold limT; omega
theorem inW_lim (f u t : Int) : inW f u (limT t) = inW f u t := by rw [inW, inW, limT_twice]
theorem sigStep_lim (t : Int) (o : Option Ky) (k : Ky) : sigStep (limT t) o k = sigStep t o k := by rw [sigStep, sigStep, inW_lim]
theorem sigF_lim (t : Int) (l : List Ky) : sigF (limT t) l = sigF t l := by
  rw [sigF, sigF]
  congr 1
  funext o k
  exact sigStep_lim t o k
/-- Keys in numbers of 64 bits. -/
structure KyIn (k : Ky) : Prop where
  s0 : k.id.size ≤ 9223372036854775807
  s1 : k.sec.size ≤ 9223372036854775807
  i0 : -9223372036854775808 ≤ k.sf ∧ k.sf ≤ 9223372036854775807
  i1 : -9223372036854775808 ≤ k.su ∧ k.su ≤ 9223372036854775807
  i2 : -9223372036854775808 ≤ k.af ∧ k.af ≤ 9223372036854775807
  i3 : -9223372036854775808 ≤ k.au ∧ k.au ≤ 9223372036854775807
/-- A slice's address reads as a list of keys. -/
def KysAt (w : World) (A : Option Addr) (l : List Ky) : Prop :=
  ∀ i, (h : i < l.length) → ∃ b o, A = some ⟨b, o, none⟩ ∧ w.cell? ⟨b, o + i * 6, none⟩ = some (.string l[i].id) ∧ w.cell? ⟨b, o + i * 6 + 1, none⟩ = some (.string l[i].sec) ∧ w.cell? ⟨b, o + i * 6 + 2, none⟩ = some (.int .i64 l[i].sf) ∧ w.cell? ⟨b, o + i * 6 + 3, none⟩ = some (.int .i64 l[i].su) ∧ w.cell? ⟨b, o + i * 6 + 4, none⟩ = some (.int .i64 l[i].af) ∧ w.cell? ⟨b, o + i * 6 + 5, none⟩ = some (.int .i64 l[i].au)
theorem KysAt.below {w w' : World} {A : Option Addr} {l : List Ky} (h : KysAt w A l) (hb : Below w.heap.size w w') : KysAt w' A l := by
  intro i hi
  obtain ⟨b, o, e, h0, h1, h2, h3, h4, h5⟩ := h i hi
  have hl := World.block_lt_of_cell? w _ h0
  have hc : ∀ j, w'.cell? ⟨b, j, none⟩ = w.cell? ⟨b, j, none⟩ := fun j => hb.cell (p := ⟨b, j, none⟩) hl
  exact ⟨b, o, e, (hc _).trans h0, (hc _).trans h1, (hc _).trans h2, (hc _).trans h3, (hc _).trans h4, (hc _).trans h5⟩
theorem KysAt.nil (w : World) (A : Option Addr) : KysAt w A [] := fun _ h => absurd h (Nat.not_lt_zero _)
theorem KysAt.take {w : World} {A : Option Addr} {l : List Ky} (h : KysAt w A l) (n : Nat) : KysAt w A (l.take n) := by
  intro i hi
  have hi' : i < l.length := by rw [List.length_take] at hi; omega
  rw [List.getElem_take]
  exact h i hi'
end Go.Proofs.YtiiioefjdebggaaGreatDoor

/- digest.ReadHex and its reference. -/
namespace Go.Proofs.YtiiioefjdebggaaGreatDoor
open Go.RowKit

/-- The value of a hexadecimal digit. -/
def hexVal (c : UInt8) : Option Nat := if 48 ≤ c.toNat ∧ c.toNat ≤ 57 then some (c.toNat - 48) else if 97 ≤ c.toNat ∧ c.toNat ≤ 102 then some (c.toNat - 87) else none
theorem hexVal_lt {c : UInt8} {d : Nat} (h : hexVal c = some d) : d < 16 := by
  unfold hexVal at h
  split at h
  · cases h; omega
  · split at h
    · cases h; omega
    · cases h
def readStep (o : Option Nat) (c : UInt8) : Option Nat := o.bind fun n => (hexVal c).map fun d => n * 16 + d
/-- The number with hexadecimal digits. -/
def readL (l : List UInt8) : Option Nat := l.foldl readStep (some 0)
theorem readStep_none (l : List UInt8) : l.foldl readStep none = none := by
  induction l with
  | nil => rfl
  | cons c l ih => exact ih
theorem readL_snoc (s : ByteArray) (k : Nat) (h : k < s.size) : readL (s.data.toList.take (k + 1)) = readStep (readL (s.data.toList.take k)) s[k] := by
  rw [take_snoc s k h]; unfold readL; rw [List.foldl_append]; rfl
theorem readL_dead (s : ByteArray) (k : Nat) (h : readL (s.data.toList.take k) = none) : readL s.data.toList = none := by
  conv => lhs; rw [← List.take_append_drop k s.data.toList]
  unfold readL at h ⊢
  rw [List.foldl_append, h, readStep_none]
theorem readL_lt (l : List UInt8) : ∀ {n : Nat}, readL l = some n → n < 16 ^ l.length := by
  suffices h : ∀ (l : List UInt8) (m k : Nat), m < 16 ^ k → ∀ n, l.foldl readStep (some m) = some n → n < 16 ^ (k + l.length) by
    intro n hn
    have := h l 0 0 (by omega) n hn
    simpa using this
  intro l
  induction l with
  | nil => intro m k hm n hn; cases hn; simpa using hm
  | cons c l ih =>
    intro m k hm n hn
    rw [List.foldl_cons] at hn
    cases hc : hexVal c with
    | none =>
      have e : readStep (some m) c = none := by simp [readStep, hc]
      rw [e, readStep_none] at hn
      cases hn
    | some d =>
      have e : readStep (some m) c = some (m * 16 + d) := by simp [readStep, hc]
      rw [e] at hn
      have hd := hexVal_lt hc
      have := ih (m * 16 + d) (k + 1) (by rw [Nat.pow_succ]; omega) n hn
      have e2 : k + (c :: l).length = k + 1 + l.length := by simp; omega
      rw [e2]; exact this
theorem readL_room {s : ByteArray} {k m : Nat} (hk : k < 16) (h : readL (s.data.toList.take k) = some m) : m * 16 < 18446744073709551616 := by
  have h1 := readL_lt _ h
  have h2 : (s.data.toList.take k).length ≤ 15 := by rw [List.length_take]; omega
  have h3 : 16 ^ (s.data.toList.take k).length ≤ 16 ^ 15 := Nat.pow_le_pow_right (by omega) h2
  have h4 : (16 : Nat) ^ 15 = 1152921504606846976 := by decide
  omega
theorem readL_range {s : ByteArray} {m : Nat} (hs : s.size = 16) (h : readL s.data.toList = some m) : m < 18446744073709551616 := by
  have h1 := readL_lt _ h
  have h2 : s.data.toList.length = 16 := by simpa using hs
  rw [h2] at h1
  have h4 : (16 : Nat) ^ 16 = 18446744073709551616 := by decide
  omega
theorem or_step (m d : Nat) (hm : m * 16 < 18446744073709551616) (hd : d < 16) : bits BinOp.or IntKind.u64 (IntKind.u64.wrap ((m : Int) * 16)) (d : Int) = ((m * 16 + d : Nat) : Int) := by
  have e : IntKind.u64.wrap ((m : Int) * 16) = ((m * 16 : Nat) : Int) := by rw [IntKind.wrap_u64]; omega
  rw [e, u64_or_nat _ _ hm (by omega), nat_join 4 (m * 16) d (by omega) (by omega)]
theorem add_step (m d : Nat) (hm : m * 16 < 18446744073709551616) (hd : d < 16) : IntKind.u64.wrap (IntKind.u64.wrap ((m : Int) * 16) + (d : Int)) = ((m * 16 + d : Nat) : Int) := by
  rw [IntKind.wrap_u64, IntKind.wrap_u64]; omega
theorem add_step' (m : Nat) (x : Int) (d : Nat) (hm : m * 16 < 18446744073709551616) (hd : d < 16) (hx : x = d) : IntKind.u64.wrap (IntKind.u64.wrap ((m : Int) * 16) + x) = ((m * 16 + d : Nat) : Int) := by
  rw [hx]; exact add_step m d hm hd
def readHexO (s : ByteArray) : Option Nat := if s.size = 16 then readL s.data.toList else none
def readHexN (s : ByteArray) : Int := ((readHexO s).getD 0 : Nat)
def readHexE (s : ByteArray) : Int := if (readHexO s).isSome then 0 else 4

/-- The last place below k at which the table has a byte. -/
def findV (c : UInt8) : Nat → Int
  | 0 => -1
  | k + 1 => if hexDig k = c then (k : Int) else findV c k
theorem findV_all (c : UInt8) : findV c 16 = match hexVal c with | none => -1 | some d => (d : Int) := by
  have : ∀ n : Fin 256, findV (UInt8.ofNat n.1) 16 = match hexVal (UInt8.ofNat n.1) with | none => -1 | some d => (d : Int) := by decide +kernel
  have h := this ⟨c.toNat, c.toNat_lt⟩
  simpa using h

/-- digits[k], the whole array read out first. -/
theorem idx_dig (k : Nat) (hk : k < 16) (w : World) : (Instr.index 124 (.agg digCells) (.int .i64 (k : Int))).run Tryz.prog w = .ok (.int .u8 ((hexDig k).toNat : Int)) w := by
  rcases k with _|_|_|_|_|_|_|_|_|_|_|_|_|_|_|_|k <;> first | omega | kernel_rfl

set_option maxHeartbeats 1000000 in
theorem readhex_any (s : ByteArray) (w : World) (hd : DigOk w) (_hs : s.size ≤ 9223372036854775807) :
    Calls Tryz.prog 59 #[.string s] w fun e w' => e = .returned (.tuple #[.int .u64 (readHexN s), .int .i64 (readHexE s)]) ∧ w = w' := by
  by_cases h16 : s.size = 16
  · have HO : Hid (readHexO s = readL s.data.toList) := by show _ = _; simp [readHexO, h16]
    have HN : Hid (s.size = 16) := h16
    have hn : s.size ≤ 16 := by omega
    obtain ⟨tt, fr, hg1⟩ := hd
    go_enter Tryz.func59, Tryz.ntmps59
    go_wp2
    clear h16
    go_loop [4, 14] (fun n i => ∃ k m : Nat, k ≤ 16 ∧ i = .int .i64 k ∧ n = .int .u64 m ∧ readL (s.data.toList.take k) = some m) (fun _ i => 16 - (intOf i).toNat)
    case atStart => exact ⟨0, 0, by omega, rfl, rfl, rfl⟩
    case round =>
      obtain ⟨k, m, hk, rfl, rfl, hm⟩ := hrel
      have HM := Lib.hid hm
      clear hm
      by_cases hlt : k < 16
      · have hlt2 : k < s.size := by rw [HN.out]; exact hlt
        go_wp2_with (refine wpList_load_row rfl 124 _ rfl 0 rfl tt _ fr _ hg1 Tryz.underlying124 rfl (by kernel_rfl) ?_)
        go_loop [6, 18] (fun v j => ∃ q : Nat, q ≤ 16 ∧ j = .int .i64 q ∧ v = .int .i64 (findV s[k] q)) (fun _ j => 16 - (intOf j).toNat)
        case atStart => exact ⟨0, by omega, rfl, rfl⟩
        case round =>
          obtain ⟨q, hq, rfl, rfl⟩ := hrel
          by_cases hqt : q < 16
          · have hidx := idx_dig q hqt
            have HF : Hid (findV s[k] (q + 1) = if hexDig q = s[k] then (q : Int) else findV s[k] q) := rfl
            by_cases he : hexDig q = s[k]
            · have hb : (((hexDig q).toNat : Int) == (s[k].toNat : Int)) = true := by rw [he]; simp
              have HE := Lib.hid he
              clear he
              go_wp2
              go_round
              case rel => exact ⟨q + 1, by omega, by go_num, by rw [HF.out, if_pos HE.out]⟩
              case measure => simp [intOf]; omega
            · have hb : (((hexDig q).toNat : Int) == (s[k].toNat : Int)) = false := by
                rw [beq_eq_false_iff_ne]
                intro h
                exact he (UInt8.toNat_inj.1 (by omega))
              have HE := Lib.hid he
              clear he
              go_wp2
              go_round
              case rel => exact ⟨q + 1, by omega, by go_num, by rw [HF.out, if_neg HE.out]⟩
              case measure => simp [intOf]; omega
          · have HA := Lib.hid (findV_all s[k])
            have HQ : Hid (q = 16) := by show _ = _; omega
            have HS := Lib.hid (readL_snoc s k hlt2)
            cases hv : hexVal s[k] with
            | none =>
              have e : Hid (findV s[k] q = -1) := by show _ = _; rw [HQ.out, HA.out, hv]
              have HV := Lib.hid hv
              clear hv
              rw [e.out]
              go_wp2
              go_ret2
              have hf : readHexO s = none := by
                rw [HO.out]
                apply readL_dead s (k + 1)
                rw [HS.out, HM.out]
                simp [readStep, HV.out]
              refine ⟨?_, rfl⟩
              simp [readHexN, readHexE, hf]
            | some d =>
              have e : Hid (findV s[k] q = (d : Int)) := by show _ = _; rw [HQ.out, HA.out, hv]
              have hd16 := hexVal_lt hv
              have HV := Lib.hid hv
              clear hv
              have HO2 := Lib.hid (or_step m d (readL_room hlt HM.out) hd16)
              rw [e.out]
              go_wp2
              go_round
              case rel => exact ⟨k + 1, m * 16 + d, by omega, by go_num, by rw [HO2.out], by rw [HS.out, HM.out]; simp [readStep, HV.out]⟩
              case measure => simp [intOf]; omega
      · have HF : Hid (readHexO s = some m) := by
          show _ = _
          rw [HO.out, ← HM.out, List.take_of_length_le]
          have := HN.out
          simp; omega
        go_wp2
        go_ret2
        exact ⟨by simp [readHexN, readHexE, HF.out], rfl⟩
  · have HO : Hid (readHexO s = none) := by show _ = _; simp [readHexO, h16]
    have hb : ((s.size : Int) != 16) = true := by simp; omega
    clear h16
    go_enter Tryz.func59, Tryz.ntmps59
    go_wp2
    go_ret2
    exact ⟨by simp [readHexN, readHexE, HO.out], rfl⟩

set_option maxHeartbeats 1000000 in
theorem rreadhex_any (s : ByteArray) (w : World) (_hs : s.size ≤ 9223372036854775807) :
    Calls Tryz.prog 70 #[.string s] w fun e w' => e = .returned (.tuple #[.int .u64 (readHexN s), .int .i64 (readHexE s)]) ∧ w = w' := by
  by_cases h16 : s.size = 16
  · have HO : Hid (readHexO s = readL s.data.toList) := by show _ = _; simp [readHexO, h16]
    have HN : Hid (s.size = 16) := h16
    have hn : s.size ≤ 16 := by omega
    go_enter Tryz.func70, Tryz.ntmps70
    go_wp2
    clear h16
    go_loop [4, 5] (fun n i => ∃ k m : Nat, k ≤ 16 ∧ i = .int .i64 k ∧ n = .int .u64 m ∧ readL (s.data.toList.take k) = some m) (fun _ i => 16 - (intOf i).toNat)
    case atStart => exact ⟨0, 0, by omega, rfl, rfl, rfl⟩
    case round =>
      obtain ⟨k, m, hk, rfl, rfl, hm⟩ := hrel
      have HM := Lib.hid hm
      clear hm
      by_cases hlt : k < 16
      · have hlt2 : k < s.size := by rw [HN.out]; exact hlt
        have HS := Lib.hid (readL_snoc s k hlt2)
        by_cases hc1 : 48 ≤ s[k].toNat ∧ s[k].toNat ≤ 57
        · obtain ⟨hc1a, hc1b⟩ := hc1
          have HV : Hid (hexVal s[k] = some (s[k].toNat - 48)) := by show _ = _; simp [hexVal, hc1a, hc1b]
          have HB : Hid (m * 16 < 18446744073709551616) := readL_room hlt HM.out
          go_wp2
          go_round
          case rel => exact ⟨k + 1, m * 16 + (s[k].toNat - 48), by omega, by go_num, congrArg (Value.int IntKind.u64) (add_step' m _ (s[k].toNat - 48) HB.out (by omega) (by omega)), by rw [HS.out, HM.out]; simp [readStep, HV.out]⟩
          case measure => simp [intOf]; omega
        · by_cases hc2 : 97 ≤ s[k].toNat ∧ s[k].toNat ≤ 102
          · have HV : Hid (hexVal s[k] = some (s[k].toNat - 87)) := by show _ = _; simp only [hexVal, if_neg hc1, if_pos hc2]
            obtain ⟨hc2a, hc2b⟩ := hc2
            clear hc1
            have hc3 : ¬ s[k].toNat ≤ 57 := by omega
            have HB : Hid (m * 16 < 18446744073709551616) := readL_room hlt HM.out
            go_wp2
            go_round
            case rel => exact ⟨k + 1, m * 16 + (s[k].toNat - 87), by omega, by go_num, congrArg (Value.int IntKind.u64) (add_step' m _ (s[k].toNat - 87) HB.out (by omega) (by omega)), by rw [HS.out, HM.out]; simp [readStep, HV.out]⟩
            case measure => simp [intOf]; omega
          · have HV : Hid (hexVal s[k] = none) := by show _ = _; simp only [hexVal, if_neg hc1, if_neg hc2]
            have hf : readHexO s = none := by
              rw [HO.out]
              apply readL_dead s (k + 1)
              rw [HS.out, HM.out]
              simp [readStep, HV.out]
            have HF := Lib.hid hf
            clear hf
            have hcs : s[k].toNat < 48 ∨ (57 < s[k].toNat ∧ s[k].toNat < 97) ∨ 102 < s[k].toNat := by omega
            clear hc1 hc2
            rcases hcs with hc | ⟨hc, hc'⟩ | hc
            all_goals
              go_wp2
              go_ret2
              exact ⟨by simp [readHexN, readHexE, HF.out], rfl⟩
      · have HF : Hid (readHexO s = some m) := by
          show _ = _
          rw [HO.out, ← HM.out, List.take_of_length_le]
          have := HN.out
          simp; omega
        go_wp2
        go_ret2
        exact ⟨by simp [readHexN, readHexE, HF.out], rfl⟩
  · have HO : Hid (readHexO s = none) := by show _ = _; simp [readHexO, h16]
    have hb : ((s.size : Int) != 16) = true := by simp; omega
    clear h16
    go_enter Tryz.func70, Tryz.ntmps70
    go_wp2
    go_ret2
    exact ⟨by simp [readHexN, readHexE, HO.out], rfl⟩
end Go.Proofs.YtiiioefjdebggaaGreatDoor

/- The digest of strings that differ in one byte: each step of Sum is injective. Plain arithmetic. -/
namespace Go.Proofs.YtiiioefjdebggaaGreatDoor
open Go.RowKit

def xsN (x : Nat) : Nat := x ^^^ x / 8589934592
theorem xsN_lt {x : Nat} (h : x < 18446744073709551616) : xsN x < 18446744073709551616 :=
  Nat.xor_lt_two_pow (n := 64) h (Nat.lt_of_le_of_lt (Nat.div_le_self _ _) h)
theorem xsN_inv {x : Nat} (h : x < 18446744073709551616) : xsN (xsN x) = x := by
  have e : ∀ y : Nat, y / 8589934592 = y >>> 33 := fun y => by rw [Nat.shiftRight_eq_div_pow]
  have z : x >>> 33 >>> 33 = 0 := by
    rw [← Nat.shiftRight_add, Nat.shiftRight_eq_div_pow]
    exact Nat.div_eq_of_lt (Nat.lt_of_lt_of_le h (by decide))
  unfold xsN
  rw [e, e, Nat.shiftRight_xor_distrib, z, Nat.xor_zero, Nat.xor_assoc, Nat.xor_self, Nat.xor_zero]
theorem xsN_inj {x y : Nat} (hx : x < 18446744073709551616) (hy : y < 18446744073709551616) (h : xsN x = xsN y) : x = y := by
  rw [← xsN_inv hx, h, xsN_inv hy]
theorem mul_inj {C D x y : Nat} (hCD : C * D % 18446744073709551616 = 1) (hx : x < 18446744073709551616) (hy : y < 18446744073709551616) (h : x * C % 18446744073709551616 = y * C % 18446744073709551616) : x = y := by
  have k : ∀ z : Nat, z < 18446744073709551616 → z * C % 18446744073709551616 * D % 18446744073709551616 = z := by
    intro z hz
    rw [Nat.mod_mul_mod, Nat.mul_assoc, Nat.mul_mod, hCD, Nat.mul_one, Nat.mod_mod, Nat.mod_eq_of_lt hz]
  rw [← k x hx, h, k y hy]
theorem xor_inj {x y c : Nat} (h : x ^^^ c = y ^^^ c) : x = y := by
  have := congrArg (· ^^^ c) h
  simpa [Nat.xor_assoc] using this
def stepN (h c : Nat) : Nat := (h ^^^ c) * 1099511628211 % 18446744073709551616
theorem stepN_lt (h c : Nat) : stepN h c < 18446744073709551616 := Nat.mod_lt _ (by decide)
theorem step_eq (h : Nat) (hh : h < 18446744073709551616) (c : UInt8) : sumStep (h : Int) c = (stepN h c.toNat : Int) := by
  have hc := c.toNat_lt
  have e : IntKind.u64.wrap (c.toNat : Int) = (c.toNat : Int) := by rw [IntKind.wrap_u64]; omega
  unfold sumStep
  rw [e, bits_xor_u64_nat _ _ hh (by omega), IntKind.wrap_u64]
  unfold stepN
  omega
theorem stepN_inj_h {h h' c : Nat} (a : h < 18446744073709551616) (b : h' < 18446744073709551616) (hc : c < 256) (e : stepN h c = stepN h' c) : h = h' :=
  xor_inj (mul_inj (D := 14886173955864302971) (by decide) (Nat.xor_lt_two_pow (n := 64) a (by omega)) (Nat.xor_lt_two_pow (n := 64) b (by omega)) e)
theorem stepN_inj_c {h c c' : Nat} (a : h < 18446744073709551616) (hc : c < 256) (hc' : c' < 256) (e : stepN h c = stepN h c') : c = c' := by
  have := mul_inj (D := 14886173955864302971) (by decide) (Nat.xor_lt_two_pow (n := 64) a (by omega)) (Nat.xor_lt_two_pow (n := 64) a (by omega)) e
  rw [Nat.xor_comm h c, Nat.xor_comm h c'] at this
  exact xor_inj this
def runN (h : Nat) (l : List UInt8) : Nat := l.foldl (fun h c => stepN h c.toNat) h
theorem runN_lt (l : List UInt8) : ∀ {h : Nat}, h < 18446744073709551616 → runN h l < 18446744073709551616 := by
  induction l with
  | nil => intro h hh; exact hh
  | cons c l ih => intro h _; exact ih (stepN_lt h c.toNat)
theorem run_eq (l : List UInt8) : ∀ (h : Nat), h < 18446744073709551616 → l.foldl sumStep (h : Int) = (runN h l : Int) := by
  induction l with
  | nil => intro h _; rfl
  | cons c l ih =>
    intro h hh
    rw [List.foldl_cons, step_eq h hh c, ih _ (stepN_lt h c.toNat)]
    rfl
theorem runN_inj (l : List UInt8) : ∀ {h h' : Nat}, h < 18446744073709551616 → h' < 18446744073709551616 → runN h l = runN h' l → h = h' := by
  induction l with
  | nil => intro h h' _ _ e; exact e
  | cons c l ih =>
    intro h h' a b e
    exact stepN_inj_h a b c.toNat_lt (ih (stepN_lt _ _) (stepN_lt _ _) e)
def mixN (z : Nat) : Nat := xsN (xsN (xsN z * 18397679294719823053 % 18446744073709551616) * 14181476777654086739 % 18446744073709551616)
theorem mix_aux (z u v : Int) (h1 : IntKind.u64.wrap (bits BinOp.xor IntKind.u64 z (z / 8589934592) * 18397679294719823053) = u) (h2 : IntKind.u64.wrap (bits BinOp.xor IntKind.u64 u (u / 8589934592) * 14181476777654086739) = v) :
    sumMix z = bits BinOp.xor IntKind.u64 v (v / 8589934592) := by
  unfold sumMix
  rw [h1, h2]
theorem mix_eq (z : Nat) (hz : z < 18446744073709551616) : sumMix (z : Int) = (mixN z : Int) :=
  (mix_aux _ _ _ (mixStep_u64 z 8589934592 18397679294719823053 hz) (mixStep_u64 _ 8589934592 14181476777654086739 (Nat.mod_lt _ (by decide)))).trans (xorShift_u64 _ 8589934592 (Nat.mod_lt _ (by decide)))
theorem mixN_inj {x y : Nat} (hx : x < 18446744073709551616) (hy : y < 18446744073709551616) (h : mixN x = mixN y) : x = y := by
  have l : ∀ z : Nat, z % 18446744073709551616 < 18446744073709551616 := fun z => Nat.mod_lt _ (by decide)
  have h1 := xsN_inj (l _) (l _) h
  have h2 := mul_inj (D := 11291846944257947611) (by decide) (xsN_lt (l _)) (xsN_lt (l _)) h1
  have h3 := xsN_inj (l _) (l _) h2
  have h4 := mul_inj (D := 5725274745694666757) (by decide) (xsN_lt hx) (xsN_lt hy) h3
  exact xsN_inj hx hy h4
/-- STRINGS THAT DIFFER IN ONE BYTE HAVE DIFFERENT DIGESTS. -/
theorem sum_one (p q : List UInt8) (a b : UInt8) (h : sumMix (sumRun (p ++ a :: q)) = sumMix (sumRun (p ++ b :: q))) : a = b := by
  have h0 : (14695981039346656037 : Nat) < 18446744073709551616 := by decide
  have e : ∀ l : List UInt8, sumRun l = ((runN 14695981039346656037 l : Nat) : Int) := fun l => run_eq l _ h0
  rw [e, e, mix_eq _ (runN_lt _ h0), mix_eq _ (runN_lt _ h0)] at h
  have h1 := mixN_inj (runN_lt _ h0) (runN_lt _ h0) (Int.ofNat.inj h)
  have r : ∀ c : UInt8, runN 14695981039346656037 (p ++ c :: q) = runN (stepN (runN 14695981039346656037 p) c.toNat) q := fun c => by
    unfold runN; rw [List.foldl_append]; rfl
  rw [r, r] at h1
  have h2 := runN_inj q (stepN_lt _ _) (stepN_lt _ _) h1
  exact UInt8.toNat_inj.1 (stepN_inj_c (runN_lt _ h0) a.toNat_lt b.toNat_lt h2)
end Go.Proofs.YtiiioefjdebggaaGreatDoor

/- Reading the hexadecimal digits back. Plain. -/
namespace Go.Proofs.YtiiioefjdebggaaGreatDoor
open Go.RowKit

theorem hexVal_dig (d : Nat) (h : d < 16) : hexVal (hexDig d) = some d := by
  have : ∀ d : Fin 16, hexVal (hexDig d.1) = some d.1 := by decide +kernel
  exact this ⟨d, h⟩
theorem hexDig_val {c : UInt8} {d : Nat} (h : hexVal c = some d) : hexDig d = c := by
  have : ∀ n : Fin 256, ∀ d : Fin 16, hexVal (UInt8.ofNat n.1) = some d.1 → hexDig d.1 = UInt8.ofNat n.1 := by decide +kernel
  have h2 := this ⟨c.toNat, c.toNat_lt⟩ ⟨d, hexVal_lt h⟩
  simpa using h2 (by simpa using h)
theorem dig_nat (k i : Nat) : ((k : Int) / 16 ^ i % 16).toNat = k / 16 ^ i % 16 := by
  have : ((k : Int) / 16 ^ i % 16) = ((k / 16 ^ i % 16 : Nat) : Int) := by simp
  rw [this, Int.toNat_natCast]
theorem read_tail (i : Nat) : ∀ (k m : Nat), (hexTail i (k : Int)).foldl readStep (some m) = some (m * 16 ^ i + k % 16 ^ i) := by
  induction i with
  | zero => intro k m; simp [hexTail, Nat.mod_one]
  | succ i ih =>
    intro k m
    rw [hexTail, List.foldl_cons, dig_nat]
    have e : readStep (some m) (hexDig (k / 16 ^ i % 16)) = some (m * 16 + k / 16 ^ i % 16) := by
      simp [readStep, hexVal_dig _ (Nat.mod_lt _ (by decide : 0 < 16))]
    rw [e, ih, Nat.mod_pow_succ]
    congr 1
    rw [Nat.pow_succ, Nat.add_mul, Nat.mul_assoc, Nat.mul_comm 16 (16 ^ i), Nat.mul_comm (k / 16 ^ i % 16) (16 ^ i)]
    omega
theorem tail_read : ∀ (l : List UInt8) (m k : Nat), l.foldl readStep (some m) = some k → hexTail l.length (k : Int) = l ∧ k / 16 ^ l.length = m
  | [], m, k, h => by cases h; simp [hexTail]
  | c :: l, m, k, h => by
    rw [List.foldl_cons] at h
    cases hc : hexVal c with
    | none =>
      have e : readStep (some m) c = none := by simp [readStep, hc]
      rw [e, readStep_none] at h
      cases h
    | some d =>
      have e : readStep (some m) c = some (m * 16 + d) := by simp [readStep, hc]
      rw [e] at h
      have hd := hexVal_lt hc
      obtain ⟨h1, h2⟩ := tail_read l _ _ h
      refine ⟨?_, ?_⟩
      · rw [List.length_cons, hexTail, dig_nat, h1, h2, show (m * 16 + d) % 16 = d by omega, hexDig_val hc]
      · rw [List.length_cons, Nat.pow_succ, ← Nat.div_div_eq_div_mul, h2]; omega
theorem readhex_hex (n : Int) (h0 : 0 ≤ n) (h1 : n < 18446744073709551616) : readHexN (hexS n) = n ∧ readHexE (hexS n) = 0 := by
  obtain ⟨k, rfl⟩ := Int.eq_ofNat_of_zero_le h0
  have hk : k < 18446744073709551616 := by omega
  have e : readHexO (hexS (k : Int)) = some k := by
    rw [readHexO, if_pos (hexS_size _)]
    have h2 : (hexS (k : Int)).data.toList = hexTail 16 (k : Int) := by simp [hexS]
    rw [h2]
    unfold readL
    rw [read_tail]
    have h3 : (16 : Nat) ^ 16 = 18446744073709551616 := by decide
    rw [h3, Nat.mod_eq_of_lt hk]
    simp
  constructor
  · rw [readHexN, e]; rfl
  · rw [readHexE, e]; rfl
theorem hex_readhex (s : ByteArray) (h : readHexE s = 0) : hexS (readHexN s) = s := by
  unfold readHexE at h
  split at h
  · rename_i hs
    unfold readHexN
    cases e : readHexO s with
    | none => rw [e] at hs; simp at hs
    | some k =>
      unfold readHexO at e
      split at e
      · rename_i h16
        obtain ⟨h1, _⟩ := tail_read _ _ _ e
        have hl : s.data.toList.length = 16 := by simpa using h16
        rw [hl] at h1
        apply ByteArray.ext
        show (hexTail 16 (k : Int)).toArray = s.data
        rw [h1]
      · cases e
  · cases h
theorem readhex_cases (s : ByteArray) : readHexE s = 0 ∨ (readHexE s = 4 ∧ readHexN s = 0) := by
  unfold readHexE readHexN
  cases readHexO s with
  | none => right; simp
  | some k => left; simp
theorem readhex_range (s : ByteArray) : 0 ≤ readHexN s ∧ readHexN s < 18446744073709551616 := by
  unfold readHexN readHexO
  split
  · rename_i h16
    cases e : readL s.data.toList with
    | none => simp
    | some k => have := readL_range h16 e; simp; omega
  · simp
theorem sumS_one (p q : ByteArray) (a b : UInt8) : (sumS (p ++ ⟨#[a]⟩ ++ q) = sumS (p ++ ⟨#[b]⟩ ++ q)) ↔ a = b := by
  constructor
  · intro h
    refine sum_one p.data.toList q.data.toList a b ?_
    unfold sumS at h
    simpa [ByteArray.data_append] using h
  · intro h; rw [h]
end Go.Proofs.YtiiioefjdebggaaGreatDoor

/- Tokens: plain. -/
namespace Go.Proofs.YtiiioefjdebggaaGreatDoor
open Go.RowKit

def dotS : ByteArray := ⟨#[46]⟩
theorem ba_list {a b : ByteArray} (h : a.data.toList = b.data.toList) : a = b := by
  apply ByteArray.ext
  exact Array.toList_inj.1 h
theorem app_list (a b : ByteArray) : (a ++ b).data.toList = a.data.toList ++ b.data.toList := by
  rw [ByteArray.data_append, Array.toList_append]
theorem dot_list : dotS.data.toList = [46] := rfl
/-- The place of the last point. -/
def ptI (s : ByteArray) : Int := Lib.lastIndexByte s 46
theorem bang_at (s : ByteArray) (j : Nat) (hj : j < s.size) : (((s.data[j]!).toNat : Int) = 46) ↔ s.data.toList[j]'(by simpa using hj) = 46 := by
  rw [getElem!_pos s.data j (by simpa using hj)]
  rw [Array.getElem_toList]
  constructor
  · intro h
    exact UInt8.toNat_inj.1 (by show _ = 46; omega)
  · intro h
    rw [h]; rfl
theorem ptI_cases (s : ByteArray) : (ptI s = -1 ∧ (46 : UInt8) ∉ s.data.toList) ∨ ∃ i : Nat, ∃ h : i < s.data.toList.length, ptI s = (i : Int) ∧ s.data.toList[i] = 46 ∧ (46 : UInt8) ∉ s.data.toList.drop (i + 1) := by
  have hl : s.data.toList.length = s.size := by simp
  rcases Lib.lastIndexByte_spec s 46 with ⟨e, hn⟩ | ⟨i, hi, e, hc, hn⟩
  · refine .inl ⟨e, fun hm => ?_⟩
    obtain ⟨j, hj, he⟩ := List.getElem_of_mem hm
    exact hn j (by omega) ((bang_at s j (by omega)).2 he)
  · refine .inr ⟨i, by omega, e, (bang_at s i hi).1 hc, fun hm => ?_⟩
    obtain ⟨j, hj, he⟩ := List.getElem_of_mem hm
    rw [List.getElem_drop] at he
    rw [List.length_drop] at hj
    exact hn (i + 1 + j) (by omega) (by omega) ((bang_at s _ (by omega)).2 he)
theorem ptI_no {s : ByteArray} (h : (46 : UInt8) ∉ s.data.toList) : ptI s = -1 := by
  rcases ptI_cases s with ⟨e, _⟩ | ⟨i, hi, _, e, _⟩
  · exact e
  · exact absurd (e ▸ List.getElem_mem hi) h
theorem ptI_at {a b : ByteArray} (h : (46 : UInt8) ∉ b.data.toList) : ptI (a ++ dotS ++ b) = (a.size : Int) := by
  have hs : (a ++ dotS ++ b).data.toList = a.data.toList ++ 46 :: b.data.toList := by rw [app_list, app_list, dot_list]; simp
  have hl : a.data.toList.length = a.size := by simp
  rcases ptI_cases (a ++ dotS ++ b) with ⟨_, hn⟩ | ⟨i, hi, e, hc, hn⟩
  · rw [hs] at hn; simp at hn
  · rw [e]
    simp only [hs] at hi hc hn
    rcases Nat.lt_trichotomy i a.size with h1 | h1 | h1
    · exfalso
      apply hn
      rw [List.drop_append_of_le_length (by omega)]
      simp
    · omega
    · exfalso
      apply h
      rw [List.getElem_append_right (by omega)] at hc
      obtain ⟨q, hq⟩ : ∃ q, i - a.data.toList.length = q + 1 := ⟨i - a.data.toList.length - 1, by omega⟩
      simp only [hq, List.getElem_cons_succ] at hc
      rw [← hc]
      exact List.getElem_mem _
/-- The parts of a token. -/
def PartsIs (s a b c : ByteArray) : Prop := s = a ++ dotS ++ b ++ dotS ++ c ∧ (46 : UInt8) ∉ b.data.toList ∧ (46 : UInt8) ∉ c.data.toList
theorem ext_to (s : ByteArray) (i : Nat) : (s.extract 0 i).data.toList = s.data.toList.take i := ext_front s i
theorem ext_mid (s : ByteArray) (i j : Nat) : (s.extract i j).data.toList = (s.data.toList.take j).drop i := by
  rw [ByteArray.data_extract, Array.toList_extract, List.extract_eq_take_drop, List.drop_take]
theorem app_front (a b : ByteArray) : (a ++ dotS ++ b).extract 0 a.size = a := by
  apply ba_list
  rw [ext_to, app_list, app_list, List.append_assoc, List.take_left']
  simp
theorem app_back (a b : ByteArray) : (a ++ dotS ++ b).extract (a.size + 1) (a ++ dotS ++ b).size = b := by
  apply ba_list
  rw [ext_back, app_list, app_list, dot_list, List.drop_left']
  simp
/-- No point, or one alone. -/
theorem parts_no1 {s : ByteArray} (h : (46 : UInt8) ∉ s.data.toList) : ∀ a b c, ¬ PartsIs s a b c := by
  rintro a b c ⟨rfl, _, _⟩
  rw [app_list, app_list, dot_list] at h
  simp at h
theorem parts_no2 {s : ByteArray} {j : Nat} (hj : ptI s = (j : Int)) (h : (46 : UInt8) ∉ (s.extract 0 j).data.toList) : ∀ a b c, ¬ PartsIs s a b c := by
  rintro a b c ⟨rfl, hb, hc⟩
  have e := ptI_at (a := a ++ dotS ++ b) hc
  rw [hj] at e
  have e : j = (a ++ dotS ++ b).size := by omega
  rw [e, app_front, app_list, app_list, dot_list] at h
  simp at h
theorem parts_yes {s : ByteArray} {i j : Nat} (hj : ptI s = (j : Int)) (hi : ptI (s.extract 0 j) = (i : Int)) : PartsIs s (s.extract 0 i) (s.extract (i + 1) j) (s.extract (j + 1) s.size) ∧ i < j ∧ j < s.size := by
  have hsz : s.data.toList.length = s.size := by simp
  rcases ptI_cases s with ⟨e, _⟩ | ⟨j', hj', e, hc, hn⟩
  · omega
  obtain rfl : j' = j := by omega
  have hlt : j' < s.size := by omega
  rcases ptI_cases (s.extract 0 j') with ⟨e2, _⟩ | ⟨i', hi', e2, hc2, hn2⟩
  · omega
  obtain rfl : i' = i := by omega
  have ht : (s.extract 0 j').data.toList = s.data.toList.take j' := ext_to s j'
  simp only [ht] at hi' hc2 hn2
  rw [List.length_take] at hi'
  have hlt2 : i' < j' := by omega
  refine ⟨⟨?_, ?_, ?_⟩, hlt2, hlt⟩
  · have h1 : s.extract 0 j' ++ ⟨#[46]⟩ ++ s.extract (j' + 1) s.size = s := split_at s 46 j' (by rw [List.getElem?_eq_getElem hj', hc])
    have h2 : (s.extract 0 j').extract 0 i' ++ ⟨#[46]⟩ ++ (s.extract 0 j').extract (i' + 1) (s.extract 0 j').size = s.extract 0 j' := split_at (s.extract 0 j') 46 i' (by
      rw [ht, List.getElem?_eq_getElem (by rw [List.length_take]; omega), hc2])
    have h3 : (s.extract 0 j').extract 0 i' = s.extract 0 i' := by
      apply ba_list
      rw [ext_to, ext_to, ext_to, List.take_take, Nat.min_eq_left (by omega)]
    have h4 : (s.extract 0 j').extract (i' + 1) (s.extract 0 j').size = s.extract (i' + 1) j' := by
      apply ba_list
      rw [ext_back, ext_to, ext_mid]
    rw [h3, h4] at h2
    rw [← h2] at h1
    exact h1.symm
  · rw [ext_mid]; exact hn2
  · rw [ext_back]; exact hn
theorem PartsIs.inj {s a b c a' b' c' : ByteArray} (h : PartsIs s a b c) (h' : PartsIs s a' b' c') : a = a' ∧ b = b' ∧ c = c' := by
  obtain ⟨e, hb, hc⟩ := h
  obtain ⟨e', hb', hc'⟩ := h'
  have k1 := ptI_at (a := a ++ dotS ++ b) hc
  have k2 := ptI_at (a := a' ++ dotS ++ b') hc'
  rw [← e] at k1
  rw [← e'] at k2
  have k : (a ++ dotS ++ b).size = (a' ++ dotS ++ b').size := by omega
  have f1 : s.extract 0 (a ++ dotS ++ b).size = a ++ dotS ++ b := by rw [e]; exact app_front _ _
  have f2 : s.extract 0 (a' ++ dotS ++ b').size = a' ++ dotS ++ b' := by rw [e']; exact app_front _ _
  have g1 : s.extract ((a ++ dotS ++ b).size + 1) s.size = c := by
    have := app_back (a ++ dotS ++ b) c
    rwa [← e] at this
  have g2 : s.extract ((a' ++ dotS ++ b').size + 1) s.size = c' := by
    have := app_back (a' ++ dotS ++ b') c'
    rwa [← e'] at this
  rw [k] at f1 g1
  have hab : a ++ dotS ++ b = a' ++ dotS ++ b' := f1.symm.trans f2
  have m1 := ptI_at (a := a) hb
  have m2 := ptI_at (a := a') hb'
  rw [hab] at m1
  have m : a.size = a'.size := by omega
  have n1 := app_front a b
  have n2 := app_front a' b'
  have o1 := app_back a b
  have o2 := app_back a' b'
  rw [hab, m] at n1 o1
  exact ⟨n1.symm.trans n2, o1.symm.trans o2, g1.symm.trans g2⟩
/-- A token of an identifier, a text and a signature. -/
def TokIs (s id text sum : ByteArray) : Prop := wordS id = true ∧ readHexE sum = 0 ∧ s = id ++ dotS ++ b64S text ++ dotS ++ sum
theorem b64Dig_dot (d : Nat) (h : d < 64) : b64Dig d ≠ 46 := by
  intro e
  have := b64Val_dig d h
  rw [e] at this
  have h0 : b64Val 46 = none := by decide
  rw [h0] at this
  cases this
theorem b64E_dot (l : List UInt8) : (46 : UInt8) ∉ b64E l 0 0 ∧ (∀ x, x < 4 → (46 : UInt8) ∉ b64E l 2 x) ∧ (∀ x, x < 16 → (46 : UInt8) ∉ b64E l 4 x) := by
  induction l with
  | nil =>
    refine ⟨by simp [b64E], fun x hx => ?_, fun x hx => ?_⟩
    · rw [b64E, List.mem_singleton]; exact fun e => b64Dig_dot _ (by omega) e.symm
    · rw [b64E, List.mem_singleton]; exact fun e => b64Dig_dot _ (by omega) e.symm
      all_goals omega
  | cons c r ih =>
    obtain ⟨h0, h2, h4⟩ := ih
    have hc : c.toNat < 256 := c.toNat_lt
    refine ⟨?_, fun x hx => ?_, fun x hx => ?_⟩
    · rw [b64E, List.mem_cons, not_or]; exact ⟨fun e => b64Dig_dot _ (by omega) e.symm, h2 _ (by omega)⟩
    · rw [b64E, List.mem_cons, not_or]; exact ⟨fun e => b64Dig_dot _ (by omega) e.symm, h4 _ (by omega)⟩
    · rw [b64E, List.mem_cons, not_or, List.mem_cons, not_or]; exact ⟨fun e => b64Dig_dot _ (by omega) e.symm, fun e => b64Dig_dot _ (by omega) e.symm, h0⟩
      all_goals omega
theorem b64_dot (s : ByteArray) : (46 : UInt8) ∉ (b64S s).data.toList := (b64E_dot s.data.toList).1
theorem readL_dot : ∀ (l : List UInt8) (o : Option Nat), (46 : UInt8) ∈ l → l.foldl readStep o = none
  | [], _, h => by simp at h
  | c :: r, o, h => by
    rw [List.foldl_cons]
    rcases List.mem_cons.1 h with h | h
    · subst h
      have : readStep o 46 = none := by cases o <;> simp [readStep, hexVal]
      rw [this]; exact readStep_none r
    · exact readL_dot r _ h
theorem hex_dot {s : ByteArray} (h : readHexE s = 0) : (46 : UInt8) ∉ s.data.toList := by
  intro hm
  rw [readHexE, readHexO, readL, readL_dot _ _ hm] at h
  split at h <;> simp at h
theorem hex_size {s : ByteArray} (h : readHexE s = 0) : s.size = 16 := by
  rw [readHexE, readHexO] at h
  split at h
  · assumption
  · simp at h
theorem TokIs.parts {s id text sum : ByteArray} (h : TokIs s id text sum) : PartsIs s id (b64S text) sum := ⟨h.2.2, b64_dot _, hex_dot h.2.1⟩
theorem TokIs.inj {s a b c a' b' c' : ByteArray} (h : TokIs s a b c) (h' : TokIs s a' b' c') : a = a' ∧ b = b' ∧ c = c' := by
  obtain ⟨e1, e2, e3⟩ := h.parts.inj h'.parts
  exact ⟨e1, b64S_inj e2, e3⟩
theorem b64_ok {b : ByteArray} (h : readB64Err b = 0) : b = b64S (readB64S b) := by
  rw [readB64Err] at h
  cases ho : readB64O b with
  | none => rw [ho] at h; simp at h
  | some t => rw [readB64S, ho, Option.getD_some, b64_readB64 ho]
theorem b64_good (t : ByteArray) : readB64Err (b64S t) = 0 ∧ readB64S (b64S t) = t := by
  rw [readB64Err, readB64S, readB64_b64]; exact ⟨rfl, rfl⟩
/-- Parts that are in order. -/
theorem tok_mk {s a b c : ByteArray} (h : PartsIs s a b c) (h1 : wordS a = true) (h2 : readB64Err b = 0) (h3 : readHexE c = 0) : TokIs s a (readB64S b) c :=
  ⟨h1, h3, by rw [← b64_ok h2]; exact h.1⟩
theorem tok_no {s : ByteArray} (h : ∀ a b c, ¬ PartsIs s a b c) : ∀ a b c, ¬ TokIs s a b c := fun _ _ _ h2 => h _ _ _ h2.parts
theorem tok_bad {s a b c : ByteArray} (h : PartsIs s a b c) (h1 : wordS a = false ∨ readB64Err b ≠ 0 ∨ readHexE c ≠ 0) : ∀ a b c, ¬ TokIs s a b c := by
  intro a' b' c' h2
  obtain ⟨rfl, rfl, rfl⟩ := h.inj h2.parts
  rcases h1 with h1 | h1 | h1
  · rw [h2.1] at h1; cases h1
  · exact h1 (b64_good b').1
  · exact h1 h2.2.1
open Classical in
noncomputable def tokO (s : ByteArray) : Option (ByteArray × ByteArray × ByteArray) := if h : ∃ t : ByteArray × ByteArray × ByteArray, TokIs s t.1 t.2.1 t.2.2 then some h.choose else none
theorem tokO_some {s a b c : ByteArray} (h : TokIs s a b c) : tokO s = some (a, b, c) := by
  have hx : ∃ t : ByteArray × ByteArray × ByteArray, TokIs s t.1 t.2.1 t.2.2 := ⟨(a, b, c), h⟩
  rw [tokO, dif_pos hx]
  obtain ⟨e1, e2, e3⟩ := hx.choose_spec.inj h
  exact congrArg some (Prod.ext e1 (Prod.ext e2 e3))
theorem tokO_none {s : ByteArray} (h : ∀ a b c, ¬ TokIs s a b c) : tokO s = none := by
  rw [tokO, dif_neg]
  rintro ⟨t, ht⟩
  exact h _ _ _ ht
theorem tokO_is {s a b c : ByteArray} (h : tokO s = some (a, b, c)) : TokIs s a b c := by
  by_cases hx : ∃ t : ByteArray × ByteArray × ByteArray, TokIs s t.1 t.2.1 t.2.2
  · obtain ⟨⟨a', b', c'⟩, ht⟩ := hx
    rw [tokO_some ht] at h
    injection h with h
    injection h with h1 h
    injection h with h2 h3
    subst h1 h2 h3
    exact ht
  · rw [tokO, dif_neg hx] at h; cases h
open Classical in
noncomputable def decO (s : ByteArray) : Option Cl := if h : ∃ c, IsDec s c then some h.choose else none
theorem decO_some {s : ByteArray} {c : Cl} (h : IsDec s c) : decO s = some c := by
  have hx : ∃ c, IsDec s c := ⟨c, h⟩
  rw [decO, dif_pos hx, isDec_inj hx.choose_spec h]
theorem decO_none {s : ByteArray} (h : ∀ c, ¬ IsDec s c) : decO s = none := by
  rw [decO, dif_neg]
  rintro ⟨c, hc⟩
  exact h c hc
theorem decO_is {s : ByteArray} {c : Cl} (h : decO s = some c) : IsDec s c := by
  by_cases hx : ∃ c, IsDec s c
  · obtain ⟨d, hd⟩ := hx
    rw [decO_some hd] at h
    injection h with h
    subst h
    exact hd
  · rw [decO, dif_neg hx] at h; cases h
/-- The head of a token and its signature. -/
def headS (id text : ByteArray) : ByteArray := id ++ dotS ++ b64S text
/-- The signature of a head. -/
def sgnS (sec head : ByteArray) : ByteArray := textS (macS sec head)
attribute [irreducible] sgnS
theorem sgnS_eq (sec head : ByteArray) : sgnS sec head = textS (macS sec head) := by unfold sgnS; rfl
theorem sgnS_size (sec head : ByteArray) : (sgnS sec head).size = 16 := by rw [sgnS_eq, textS_size]
theorem sgnS_hex (sec head : ByteArray) : readHexE (sgnS sec head) = 0 := by rw [sgnS_eq, textS]; exact (readhex_hex _ (sumS_range _).1 (sumS_range _).2).2
def signedS (k : Ky) (text : ByteArray) : ByteArray := headS k.id text ++ dotS ++ sgnS k.sec (headS k.id text)
/-- token.Verify. -/
noncomputable def verE (l : List Ky) (s : ByteArray) (x : Ex) : Int := match tokO s with
  | none => 4
  | some (id, text, sum) => match findK l id with
    | none => 26
    | some k => if windowE k.af k.au x.now x.skew = 0 then (if sum = sgnS k.sec (headS id text) then (match decO text with
      | none => decE text
      | some c => allowE c x) else 17) else windowE k.af k.au x.now x.skew
noncomputable def verO (l : List Ky) (s : ByteArray) : Option (Ky × Cl) := match tokO s with
  | none => none
  | some (id, text, _) => match findK l id with
    | none => none
    | some k => match decO text with
      | none => none
      | some c => some (k, c)
noncomputable def verK (l : List Ky) (s : ByteArray) (x : Ex) : Ky := if verE l s x = 0 then ((verO l s).map (·.1)).getD ky0 else ky0
noncomputable def verC (l : List Ky) (s : ByteArray) (x : Ex) : Cl := if verE l s x = 0 then ((verO l s).map (·.2)).getD cl0 else cl0
theorem ver_err {l : List Ky} {s : ByteArray} {x : Ex} (h : verE l s x ≠ 0) : verK l s x = ky0 ∧ verC l s x = cl0 := by rw [verK, verC, if_neg h, if_neg h]; exact ⟨rfl, rfl⟩
theorem ver_form {l : List Ky} {s : ByteArray} {x : Ex} (h : ∀ a b c, ¬ TokIs s a b c) : verE l s x = 4 := by rw [verE, tokO_none h]
theorem ver_key {l : List Ky} {s id text sum : ByteArray} {x : Ex} (h : TokIs s id text sum) (h1 : findK l id = none) : verE l s x = 26 := by rw [verE, tokO_some h]; simp only [h1]
theorem ver_win {l : List Ky} {s id text sum : ByteArray} {x : Ex} {k : Ky} (h : TokIs s id text sum) (h1 : findK l id = some k) (h2 : windowE k.af k.au x.now x.skew ≠ 0) : verE l s x = windowE k.af k.au x.now x.skew := by
  rw [verE, tokO_some h]; simp only [h1]; rw [if_neg h2]
theorem ver_sig {l : List Ky} {s id text sum : ByteArray} {x : Ex} {k : Ky} (h : TokIs s id text sum) (h1 : findK l id = some k) (h2 : windowE k.af k.au x.now x.skew = 0) (h3 : sum ≠ sgnS k.sec (headS id text)) : verE l s x = 17 := by
  rw [verE, tokO_some h]; simp only [h1]; rw [if_pos h2, if_neg h3]
theorem ver_dec {l : List Ky} {s id text sum : ByteArray} {x : Ex} {k : Ky} (h : TokIs s id text sum) (h1 : findK l id = some k) (h2 : windowE k.af k.au x.now x.skew = 0) (h3 : sum = sgnS k.sec (headS id text)) (h4 : ∀ c, ¬ IsDec text c) : verE l s x = decE text := by
  rw [verE, tokO_some h]; simp only [h1]; rw [if_pos h2, if_pos h3, decO_none h4]
theorem ver_all {l : List Ky} {s id text sum : ByteArray} {x : Ex} {k : Ky} {c : Cl} (h : TokIs s id text sum) (h1 : findK l id = some k) (h2 : windowE k.af k.au x.now x.skew = 0) (h3 : sum = sgnS k.sec (headS id text)) (h4 : IsDec text c) : verE l s x = allowE c x := by
  rw [verE, tokO_some h]; simp only [h1]; rw [if_pos h2, if_pos h3, decO_some h4]
theorem ver_get {l : List Ky} {s id text sum : ByteArray} {x : Ex} {k : Ky} {c : Cl} (h : TokIs s id text sum) (h1 : findK l id = some k) (h4 : IsDec text c) (h0 : verE l s x = 0) : verK l s x = k ∧ verC l s x = c := by
  have e : verO l s = some (k, c) := by rw [verO, tokO_some h]; simp only [h1]; rw [decO_some h4]
  rw [verK, verC, if_pos h0, if_pos h0, e]; exact ⟨rfl, rfl⟩
theorem ver_zero {l : List Ky} {s : ByteArray} {x : Ex} (h : verE l s x = 0) : ∃ id text sum k c, TokIs s id text sum ∧ findK l id = some k ∧ windowE k.af k.au x.now x.skew = 0 ∧ sum = sgnS k.sec (headS id text) ∧ IsDec text c ∧ allowE c x = 0 ∧ verK l s x = k ∧ verC l s x = c := by
  cases hs : tokO s with
  | none => rw [verE, hs] at h; simp at h
  | some t =>
    obtain ⟨id, text, sum⟩ := t
    have ht := tokO_is hs
    cases hk : findK l id with
    | none => rw [ver_key ht hk] at h; omega
    | some k =>
      by_cases hw : windowE k.af k.au x.now x.skew = 0
      · by_cases hm : sum = sgnS k.sec (headS id text)
        · cases hd : decO text with
          | none =>
            have hn : ∀ c, ¬ IsDec text c := fun c hc => by rw [decO_some hc] at hd; cases hd
            rw [ver_dec ht hk hw hm hn, decE] at h
            split at h <;> omega
          | some c =>
            have hc := decO_is hd
            have ha := ver_all (x := x) ht hk hw hm hc
            obtain ⟨g1, g2⟩ := ver_get ht hk hc h
            exact ⟨id, text, sum, k, c, ht, hk, hw, hm, hc, by rw [← ha]; exact h, g1, g2⟩
        · rw [ver_sig ht hk hw hm] at h; omega
      · rw [ver_win ht hk hw] at h; exact absurd h hw
/-- token.Sign. -/
def signE (l : List Ky) (c : Cl) (t : Int) : Int := if keysE l = 0 then (if checkE c = 0 then (match sigO l t with
  | none => 26
  | some _ => encE c) else checkE c) else keysE l
def signV (l : List Ky) (c : Cl) (t : Int) : ByteArray := if signE l c t = 0 then (match sigO l t with
  | none => ByteArray.empty
  | some k => signedS k (encV c)) else ByteArray.empty
/-- token.Forge. -/
def forE (id : ByteArray) (c : Cl) (sum : ByteArray) : Int := if wordS id = true then (if checkE c = 0 then (if readHexE sum = 0 then encE c else 4) else checkE c) else 5
def forV (id : ByteArray) (c : Cl) (sum : ByteArray) : ByteArray := if forE id c sum = 0 then headS id (encV c) ++ dotS ++ sum else ByteArray.empty
/-- token.Left. -/
def endT (u k : Int) : Int := min 1099511627777 (min u 1099511627777 + skewT k)
noncomputable def leftV (l : List Ky) (s : ByteArray) (x : Ex) : Int := if verE l s x = 0 then min (endT (verC l s x).exp x.skew) (endT (verK l s x).au x.skew) - limT x.now else 0
end Go.Proofs.YtiiioefjdebggaaGreatDoor

/- token.parts and token.Split. -/
namespace Go.Proofs.YtiiioefjdebggaaGreatDoor
open Go.RowKit

theorem last_any (s : ByteArray) (w : World) (hs : s.size < 4611686018427387904) :
    Calls Tryz.prog 101 #[.string s, .int .u8 46] w fun e w' => e = .returned (.int .i64 (ptI s)) ∧ w = w' :=
  (Tryz.strings_LastIndexByte s 46 hs w).mono fun _ _ ⟨he, hw⟩ => ⟨he, hw.symm⟩
/-- Three strings by value. -/
def p3V (a b c : ByteArray) : Value := .agg #[.string a, .string b, .string c]
def p3A (a b c : ByteArray) : Array Value := #[.string a, .string b, .string c]
def p3O (a b c : ByteArray) : Obj := .cells (p3A a b c) 74 (0, 0)
theorem p3_size : (Tryz.prog.info? 74).map (·.size) = some 3 := by kernel_rfl
theorem res_p3 {fn : Func} {r u : Tmp} (h : fn.results = #[.cell r 74, .tmp u]) (tmps : Array Value) (w : World) (b : Nat) (x y z : ByteArray) (v : Value) (hr : tmps.getD r undef = .pointer (some ⟨b, 0, none⟩)) (hX : w.heap[b]? = some (p3O x y z)) (hu : tmps.getD u undef = v) :
    (results fn tmps).run Tryz.prog w = .ok (.tuple #[p3V x y z, v]) w := by
  rw [results_cell_tmp h, hr, hu]
  have hl : (loadVar 74 ⟨b, 0, none⟩).run Tryz.prog w = .ok (.agg (p3A x y z)) w := run_loadVar_row w b 74 74 (p3A x y z) (0, 0) _ hX Tryz.underlying74 rfl (by exact p3_size)
  simp only [asAddr, Sem.run_pure, Result.andThen_ok, hl]
  rfl
/-- What parts returns. -/
def RetParts (s : ByteArray) (e : Ending) : Prop := (∃ a b c, e = .returned (.tuple #[p3V a b c, .bool true]) ∧ PartsIs s a b c ∧ a.size < s.size ∧ b.size < s.size ∧ c.size < s.size) ∨ (e = .returned (.tuple #[p3V ⟨#[]⟩ ⟨#[]⟩ ⟨#[]⟩, .bool false]) ∧ ∀ a b c, ¬ PartsIs s a b c)
set_option maxHeartbeats 4000000 in
set_option maxRecDepth 100000 in
theorem parts_any (s : ByteArray) (w : World) (hs : s.size < 4611686018427387904) :
    Calls Tryz.prog 57 #[.string s] w fun e w' => RetParts s e ∧ Below w.heap.size w w' := by
  rcases ptI_cases s with ⟨hj, hn⟩ | ⟨j, hjl, hj, _⟩
  · have HN := Lib.hid (parts_no1 hn)
    have HJ := Lib.hid (last_any s)
    rw [hj] at HJ
    clear hn hj
    go_enter Tryz.func57, Tryz.ntmps57
    go_wp2_with fail
    refine (Calls.mono (HJ.out _ hs) ?_)
    rintro e wsame ⟨rfl, rfl⟩
    go_wp2_with fail
    refine bodyPost_ret (v := .tuple #[p3V ⟨#[]⟩ ⟨#[]⟩ ⟨#[]⟩, .bool false]) (res_p3 Tryz.results57 _ _ w.heap.size ⟨#[]⟩ ⟨#[]⟩ ⟨#[]⟩ _ rfl ?_ rfl) rfl ⟨.inr ⟨rfl, HN.out⟩, ?_⟩
    · exact heap_alloc_new w _
    · exact (Below.refl _ _).alloc (Nat.le_refl _) _
  · have hjs : j < s.size := by simpa using hjl
    have HJ := Lib.hid (last_any s)
    rw [hj] at HJ
    have j0 : (0 : Int) ≤ (j : Int) := by omega
    have j1 : (j : Int) ≤ (s.size : Int) := by omega
    have j2 : ¬ (j : Int) < 0 := by omega
    have hts : (s.extract 0 j).size < 4611686018427387904 := by rw [ByteArray.size_extract]; omega
    rcases ptI_cases (s.extract 0 j) with ⟨hi, hn⟩ | ⟨i, hil, hi, _⟩
    · have HN := Lib.hid (parts_no2 hj hn)
      have HI := Lib.hid (last_any (s.extract 0 j))
      rw [hi] at HI
      clear hn hi hj
      go_enter Tryz.func57, Tryz.ntmps57
      go_wp2_with fail
      refine (Calls.mono (HJ.out _ hs) ?_)
      rintro e wsame ⟨rfl, rfl⟩
      go_wp2_with fail
      refine (Calls.mono (HI.out _ hts) ?_)
      rintro e wsame ⟨rfl, rfl⟩
      go_wp2_with fail
      refine bodyPost_ret (v := .tuple #[p3V ⟨#[]⟩ ⟨#[]⟩ ⟨#[]⟩, .bool false]) (res_p3 Tryz.results57 _ _ w.heap.size ⟨#[]⟩ ⟨#[]⟩ ⟨#[]⟩ _ rfl ?_ rfl) rfl ⟨.inr ⟨rfl, HN.out⟩, ?_⟩
      · exact heap_alloc_new w _
      · exact (Below.refl _ _).alloc (Nat.le_refl _) _
    · obtain ⟨hp, hij, _⟩ := parts_yes hj hi
      have HP := Lib.hid hp
      have HI := Lib.hid (last_any (s.extract 0 j))
      rw [hi] at HI
      have i0 : (0 : Int) ≤ (i : Int) := by omega
      have i1 : (i : Int) ≤ (s.size : Int) := by omega
      have i2 : ¬ (i : Int) < 0 := by omega
      have i3 : (i : Int) + 1 ≤ (j : Int) := by omega
      have i4 : (0 : Int) ≤ (i : Int) + 1 := by omega
      have i5 : IntKind.i64.wrap ((i : Int) + 1) = (i : Int) + 1 := by rw [IntKind.wrap_i64]; omega
      have j5 : IntKind.i64.wrap ((j : Int) + 1) = (j : Int) + 1 := by rw [IntKind.wrap_i64]; omega
      have j4 : (0 : Int) ≤ (j : Int) + 1 := by omega
      have j6 : (j : Int) + 1 ≤ (s.size : Int) := by omega
      have ti : ((i : Int) + 1).toNat = i + 1 := by omega
      have tj : ((j : Int) + 1).toNat = j + 1 := by omega
      clear hi hj hp
      go_enter Tryz.func57, Tryz.ntmps57
      go_wp2_with fail
      refine (Calls.mono (HJ.out _ hs) ?_)
      rintro e wsame ⟨rfl, rfl⟩
      go_wp2_with fail
      refine (Calls.mono (HI.out _ hts) ?_)
      rintro e wsame ⟨rfl, rfl⟩
      go_wp2_with fail
      go_still_tail 13, (by kernel_rfl)
      change wpList _ _ _ _ _ (World.drew (World.alloc w _))
      go_wp2_with fail
      refine bodyPost_ret (v := .tuple #[p3V (s.extract 0 i) (s.extract (i + 1) j) (s.extract (j + 1) s.size), .bool true]) (res_p3 Tryz.results57 _ _ w.heap.size (s.extract 0 i) (s.extract (i + 1) j) (s.extract (j + 1) s.size) _ rfl ?_ rfl) rfl ⟨.inl ⟨_, _, _, rfl, HP.out, ?_, ?_, ?_⟩, ?_⟩
      · exact heap_alloc_new w (p3O (s.extract 0 i) (s.extract (i + 1) j) (s.extract (j + 1) s.size))
      · rw [ByteArray.size_extract]; omega
      · rw [ByteArray.size_extract]; omega
      · rw [ByteArray.size_extract]; omega
      · exact ((Below.refl _ _).alloc (Nat.le_refl _) _).drew
end Go.Proofs.YtiiioefjdebggaaGreatDoor

/- token.Split. -/
namespace Go.Proofs.YtiiioefjdebggaaGreatDoor
open Go.RowKit

theorem box3 {w : World} {g : Nat} {a b c : ByteArray} (h : w.heap[g]? = some (p3O a b c)) : w.cell? ⟨g, 0, none⟩ = some (.string a) ∧ w.cell? ⟨g, 1, none⟩ = some (.string b) ∧ w.cell? ⟨g, 2, none⟩ = some (.string c) := ⟨cell_of_row w g 0 _ _ (0, 0) h, cell_of_row w g 1 _ _ (0, 0) h, cell_of_row w g 2 _ _ (0, 0) h⟩
theorem box3_below {w w' : World} {g : Nat} {a b c : ByteArray} (h : w.heap[g]? = some (p3O a b c)) (hb : Below w.heap.size w w') : w'.heap[g]? = some (p3O a b c) := (hb.block g (Array.getElem?_eq_some_iff.1 h).1).trans h
/-- What Split returns. -/
def RetSplit (s : ByteArray) (e : Ending) : Prop := (∃ a b c, e = .returned (.tuple #[.string a, .string b, .string c, .int .i64 0]) ∧ TokIs s a b c ∧ a.size < s.size ∧ b.size < s.size ∧ c.size = 16) ∨ (e = .returned (.tuple #[.string ⟨#[]⟩, .string ⟨#[]⟩, .string ⟨#[]⟩, .int .i64 4]) ∧ ∀ a b c, ¬ TokIs s a b c)
theorem readHexE_cases (s : ByteArray) : readHexE s = 0 ∨ readHexE s = 4 := by
  rw [readHexE]; split
  · exact .inl rfl
  · exact .inr rfl
theorem readB64E_cases (s : ByteArray) : readB64Err s = 0 ∨ readB64Err s = 4 := by
  rw [readB64Err]; split
  · exact .inl rfl
  · exact .inr rfl
set_option linter.unusedSimpArgs false in
set_option maxHeartbeats 8000000 in
set_option maxRecDepth 100000 in
theorem split26_any (s : ByteArray) (w : World) (hd : DigOk w) (hs : s.size ≤ 140737488351232) :
    Calls Tryz.prog 22 #[.string s] w fun e w' => RetSplit s e ∧ Below w.heap.size w w' := by
  have HD := Lib.hid hd
  clear hd
  go_enter Tryz.func22, Tryz.ntmps22
  go_wp2_with fail
  refine (parts_any s _ (by omega)).mono ?_
  rintro e w1 ⟨⟨a, b, c, rfl, hp, ha, hb, hc⟩ | ⟨rfl, hn⟩, hb1⟩
  · have HP := Lib.hid hp
    have B1 : Hid (Below w.heap.size w (w1.alloc (p3O a b c))) := Lib.hid (hb1.alloc hb1.size _)
    have X1 : Hid ((w1.alloc (p3O a b c)).heap[w1.heap.size]? = some (p3O a b c)) := Lib.hid (heap_alloc_new w1 _)
    have HD1 := Lib.hid (HD.out.below hb1)
    have HD2 := Lib.hid (HD.out.below B1.out)
    clear hp hb1
    rw [p3V]
    go_wp2_with fail
    refine (readb64_any b _ (by omega)).mono ?_
    rintro e w2 ⟨rfl, hb2⟩
    have B2 := Lib.hid (bthen B1.out hb2)
    have X2 := Lib.hid (box3_below X1.out hb2)
    have HD3 := Lib.hid (HD2.out.below hb2)
    clear hb2 B1 X1 HD1 HD2
    obtain ⟨q0, q1, q2⟩ := box3 X2.out
    obtain ⟨E, HE⟩ : ∃ E, Hid (readB64Err b = E) := ⟨_, Lib.hid rfl⟩
    obtain ⟨T, HT⟩ : ∃ T, Hid (readB64S b = T) := ⟨_, Lib.hid rfl⟩
    have HEC := Lib.hid (readB64E_cases b)
    have HTZ : Hid (E = 0 → T.size < s.size) := Lib.hid (fun h => by
      have h1 := b64_ok (HE.out.trans h)
      have h2 := b64S_size (readB64S b)
      rw [← h1, HT.out] at h2
      omega)
    rw [HE.out] at HEC
    rw [HE.out, HT.out]
    go_wp2_with fail
    refine (readhex_any c _ HD3.out (by omega)).mono ?_
    rintro e w3 ⟨rfl, rfl⟩
    have B3 := B2
    have X3 := X2
    clear B2 X2 HD3 q0 q1 q2
    obtain ⟨q0, q1, q2⟩ := box3 X3.out
    obtain ⟨G, HG⟩ : ∃ E, Hid (readHexE c = E) := ⟨_, Lib.hid rfl⟩
    have HGC := Lib.hid (readHexE_cases c)
    rw [HG.out] at HGC
    rw [HG.out]
    go_wp2_with fail
    refine (word_any a _ (by omega)).mono ?_
    rintro e wsame ⟨rfl, rfl⟩
    have BD := Lib.hid (fun n => below_drewN' B3.out n)
    cases hw : wordS a with
    | false =>
      have HN := Lib.hid (tok_bad HP.out (.inl hw))
      clear hw
      go_wp2_with fail
      exact bodyPost_ret (v := .tuple #[.string ⟨#[]⟩, .string ⟨#[]⟩, .string ⟨#[]⟩, .int .i64 4]) (by simp [results, Tryz.results22, go_sem]) rfl ⟨.inr ⟨rfl, HN.out⟩, B3.out⟩
    | true =>
      have HW := Lib.hid hw
      clear hw
      rcases HEC.out with rfl | rfl
      · rcases HGC.out with rfl | rfl
        · have HTK : Hid (TokIs s a T c) := Lib.hid (by rw [← HT.out]; exact tok_mk HP.out HW.out HE.out HG.out)
          have HCS := Lib.hid (hex_size HG.out)
          have HT2 := Lib.hid (HTZ.out rfl)
          go_wp2_with fail
          go_quiet (fail)
          go_wp2_with fail
          exact bodyPost_ret (v := .tuple #[.string a, .string T, .string c, .int .i64 0]) (by simp [results, Tryz.results22, go_sem]) rfl ⟨.inl ⟨a, T, c, rfl, HTK.out, ha, HT2.out, HCS.out⟩, BD.out _⟩
        · have HN := Lib.hid (tok_bad HP.out (.inr (.inr (by rw [HG.out]; decide))))
          go_wp2_with fail
          exact bodyPost_ret (v := .tuple #[.string ⟨#[]⟩, .string ⟨#[]⟩, .string ⟨#[]⟩, .int .i64 4]) (by simp [results, Tryz.results22, go_sem]) rfl ⟨.inr ⟨rfl, HN.out⟩, B3.out⟩
      · have HN := Lib.hid (tok_bad HP.out (.inr (.inl (by rw [HE.out]; decide))))
        go_wp2_with fail
        exact bodyPost_ret (v := .tuple #[.string ⟨#[]⟩, .string ⟨#[]⟩, .string ⟨#[]⟩, .int .i64 4]) (by simp [results, Tryz.results22, go_sem]) rfl ⟨.inr ⟨rfl, HN.out⟩, B3.out⟩
  · have HN := Lib.hid (tok_no hn)
    have B1 : Hid (Below w.heap.size w (w1.alloc (p3O ⟨#[]⟩ ⟨#[]⟩ ⟨#[]⟩))) := Lib.hid (hb1.alloc hb1.size _)
    have X1 : Hid ((w1.alloc (p3O ⟨#[]⟩ ⟨#[]⟩ ⟨#[]⟩)).heap[w1.heap.size]? = some (p3O ⟨#[]⟩ ⟨#[]⟩ ⟨#[]⟩)) := Lib.hid (heap_alloc_new w1 _)
    have HD2 := Lib.hid (HD.out.below B1.out)
    clear hn hb1
    rw [p3V]
    go_wp2_with fail
    refine (readb64_any ⟨#[]⟩ _ (by decide)).mono ?_
    rintro e w2 ⟨rfl, hb2⟩
    have B2 := Lib.hid (bthen B1.out hb2)
    have X2 := Lib.hid (box3_below X1.out hb2)
    have HD3 := Lib.hid (HD2.out.below hb2)
    clear hb2 B1 X1 HD2
    obtain ⟨q0, q1, q2⟩ := box3 X2.out
    obtain ⟨E, HE⟩ : ∃ E, Hid (readB64Err ⟨#[]⟩ = E) := ⟨_, Lib.hid rfl⟩
    obtain ⟨T, HT⟩ : ∃ T, Hid (readB64S ⟨#[]⟩ = T) := ⟨_, Lib.hid rfl⟩
    rw [HE.out, HT.out]
    go_wp2_with fail
    refine (readhex_any ⟨#[]⟩ _ HD3.out (by decide)).mono ?_
    rintro e w3 ⟨rfl, rfl⟩
    have B3 := B2
    clear B2 X2 HD3 q0 q1 q2
    obtain ⟨G, HG⟩ : ∃ E, Hid (readHexE ⟨#[]⟩ = E) := ⟨_, Lib.hid rfl⟩
    rw [HG.out]
    go_wp2_with fail
    exact bodyPost_ret (v := .tuple #[.string ⟨#[]⟩, .string ⟨#[]⟩, .string ⟨#[]⟩, .int .i64 4]) (by simp [results, Tryz.results22, go_sem]) rfl ⟨.inr ⟨rfl, HN.out⟩, B3.out⟩
end Go.Proofs.YtiiioefjdebggaaGreatDoor

/- Plain: base64 forms read four letters at a time. -/
namespace Go.Proofs.YtiiioefjdebggaaGreatDoor
open Go.RowKit

/-- The value of the letter at j, 0 behind the end. -/
def valAt (l : List UInt8) (j : Nat) : Option Nat := match l[j]? with
  | none => some 0
  | some c => b64Val c
/-- The first j letters as one number. -/
def accO (l : List UInt8) : Nat → Option Nat
  | 0 => some 0
  | j + 1 => (accO l j).bind fun n => (valAt l j).map fun v => n * 64 + v
/-- The bytes of k letters that make n. -/
def grpL (n k : Nat) : List UInt8 := UInt8.ofNat (n / 65536) :: ((if 2 < k then [UInt8.ofNat (n / 256 % 256)] else []) ++ (if 3 < k then [UInt8.ofNat (n % 256)] else []))
/-- What the reference reads ahead of its last test. -/
def laxL (l : List UInt8) : Option (List UInt8) :=
  if h : l = [] then some [] else
    have _hp := List.length_pos_iff.2 h
    (accO l 4).bind fun n => if l.length = 1 then none else (laxL (l.drop 4)).map fun t => grpL n (min 4 l.length) ++ t
termination_by l.length
decreasing_by
  simp; omega
theorem laxL_nil : laxL [] = some [] := by rw [laxL, dif_pos rfl]
theorem laxL_else {l : List UInt8} (h : l ≠ []) : laxL l = (accO l 4).bind fun n => if l.length = 1 then none else (laxL (l.drop 4)).map fun t => grpL n (min 4 l.length) ++ t := by
  rw [laxL, dif_neg h]
theorem acc_none {l : List UInt8} {j : Nat} (h : valAt l j = none) (hj : j < 4) : accO l 4 = none := by
  have h1 : accO l (j + 1) = none := by
    rw [accO, h]
    cases accO l j <;> rfl
  have hs : ∀ i, accO l i = none → accO l (i + 1) = none := fun i hi => by rw [accO, hi]; rfl
  have h4 : j = 0 ∨ j = 1 ∨ j = 2 ∨ j = 3 := by omega
  rcases h4 with rfl | rfl | rfl | rfl
  · exact hs 3 (hs 2 (hs 1 h1))
  · exact hs 3 (hs 2 h1)
  · exact hs 3 h1
  · exact h1
theorem grp4 (x y z u : Nat) (hz : z < 64) (hu : u < 64) : grpL ((((0 * 64 + x) * 64 + y) * 64 + z) * 64 + u) 4 = [UInt8.ofNat (x * 4 + y / 16), UInt8.ofNat (y % 16 * 16 + z / 4), UInt8.ofNat (z % 4 * 64 + u)] := by
  have e1 : ((((0 * 64 + x) * 64 + y) * 64 + z) * 64 + u) / 65536 = x * 4 + y / 16 := by omega
  have e2 : ((((0 * 64 + x) * 64 + y) * 64 + z) * 64 + u) / 256 % 256 = y % 16 * 16 + z / 4 := by omega
  have e3 : ((((0 * 64 + x) * 64 + y) * 64 + z) * 64 + u) % 256 = z % 4 * 64 + u := by omega
  rw [grpL, e1, e2, e3]; rfl
theorem grp3 (x y z : Nat) (hz : z < 64) : grpL ((((0 * 64 + x) * 64 + y) * 64 + z) * 64 + 0) 3 = [UInt8.ofNat (x * 4 + y / 16), UInt8.ofNat (y % 16 * 16 + z / 4)] := by
  have e1 : ((((0 * 64 + x) * 64 + y) * 64 + z) * 64 + 0) / 65536 = x * 4 + y / 16 := by omega
  have e2 : ((((0 * 64 + x) * 64 + y) * 64 + z) * 64 + 0) / 256 % 256 = y % 16 * 16 + z / 4 := by omega
  rw [grpL, e1, e2]; rfl
theorem grp2 (x y : Nat) : grpL ((((0 * 64 + x) * 64 + y) * 64 + 0) * 64 + 0) 2 = [UInt8.ofNat (x * 4 + y / 16)] := by
  have e1 : ((((0 * 64 + x) * 64 + y) * 64 + 0) * 64 + 0) / 65536 = x * 4 + y / 16 := by omega
  rw [grpL, e1]; rfl
theorem u8_mod (a b : Nat) (h : a % 256 = b % 256) : UInt8.ofNat a = UInt8.ofNat b := by
  apply UInt8.toNat_inj.1
  simp only [UInt8.toNat_ofNat']
  exact h
theorem b64_lax (n : Nat) : ∀ (t v : List UInt8), t.length ≤ n → b64D t 0 0 = some v → laxL t = some v := by
  induction n with
  | zero =>
    intro t v hl h
    have : t = [] := List.eq_nil_of_length_eq_zero (by omega)
    subst this
    simp [b64D] at h; subst h; exact laxL_nil
  | succ n ih =>
    intro t v hl h
    match t, hl, h with
    | [], _, h => simp [b64D] at h; subst h; exact laxL_nil
    | [a], _, h =>
      rw [b64D] at h
      cases ha : b64Val a with
      | none => rw [ha] at h; cases h
      | some x => rw [ha] at h; simp [b64D] at h
    | [a, b], _, h =>
      rw [b64D] at h
      cases ha : b64Val a with
      | none => rw [ha] at h; cases h
      | some x =>
        have hx := b64Val_lt ha
        rw [ha, Option.bind_some, b64D] at h
        · cases hb : b64Val b with
          | none => rw [hb] at h; cases h
          | some y =>
            have hy := b64Val_lt hb
            rw [hb, Option.bind_some, b64D] at h
            by_cases hz : y % 16 = 0
            · rw [if_pos ⟨by omega, hz⟩] at h
              simp only [Option.map_some, Option.some.injEq] at h; subst h
              rw [laxL_else (by simp)]
              simp only [accO, valAt, ha, hb, List.getElem?_cons_zero, List.getElem?_cons_succ, List.getElem?_nil, Option.bind_some, Option.map_some]
              rw [if_neg (by simp), show List.drop 4 [a, b] = [] from rfl, laxL_nil, show min 4 [a, b].length = 2 from rfl, grp2 x y]
              simp only [Option.map_some, List.append_nil]
              rw [u8_mod (x * 4 + y / 16) ((0 * 64 + x) * 4 + y / 16) (by omega)]
            · rw [if_neg (by omega)] at h; cases h
        all_goals omega
    | [a, b, c], _, h =>
      rw [b64D] at h
      cases ha : b64Val a with
      | none => rw [ha] at h; cases h
      | some x =>
        have hx := b64Val_lt ha
        rw [ha, Option.bind_some, b64D] at h
        · cases hb : b64Val b with
          | none => rw [hb] at h; cases h
          | some y =>
            have hy := b64Val_lt hb
            rw [hb, Option.bind_some, b64D] at h
            cases hc : b64Val c with
            | none => rw [hc] at h; cases h
            | some z =>
              have hz := b64Val_lt hc
              rw [hc, Option.bind_some, b64D] at h
              by_cases hz0 : z % 4 = 0
              · rw [if_pos ⟨by omega, hz0⟩] at h
                simp only [Option.map_some, Option.some.injEq] at h; subst h
                rw [laxL_else (by simp)]
                simp only [accO, valAt, ha, hb, hc, List.getElem?_cons_zero, List.getElem?_cons_succ, List.getElem?_nil, Option.bind_some, Option.map_some]
                rw [if_neg (by simp), show List.drop 4 [a, b, c] = [] from rfl, laxL_nil, show min 4 [a, b, c].length = 3 from rfl, grp3 x y z hz]
                simp only [Option.map_some, List.append_nil]
                rw [u8_mod (x * 4 + y / 16) ((0 * 64 + x) * 4 + y / 16) (by omega)]
              · rw [if_neg (by omega)] at h; cases h
        all_goals omega
    | a :: b :: c :: d :: r, hl, h =>
      rw [b64D] at h
      cases ha : b64Val a with
      | none => rw [ha] at h; cases h
      | some x =>
        have hx := b64Val_lt ha
        rw [ha, Option.bind_some, b64D] at h
        · cases hb : b64Val b with
          | none => rw [hb] at h; cases h
          | some y =>
            have hy := b64Val_lt hb
            rw [hb, Option.bind_some, b64D] at h
            cases hc : b64Val c with
            | none => rw [hc] at h; cases h
            | some z =>
              have hz := b64Val_lt hc
              rw [hc, Option.bind_some, b64D] at h
              cases hd : b64Val d with
              | none => rw [hd] at h; cases h
              | some u =>
                have hu := b64Val_lt hd
                rw [hd, Option.bind_some] at h
                simp only [Option.map_map, Option.map_eq_some_iff] at h
                obtain ⟨w, hw, rfl⟩ := h
                have hi := ih r w (by simp at hl; omega) hw
                rw [laxL_else (by simp)]
                simp only [accO, valAt, ha, hb, hc, hd, List.getElem?_cons_zero, List.getElem?_cons_succ, Option.bind_some, Option.map_some]
                rw [if_neg (by simp), List.drop_succ_cons, List.drop_succ_cons, List.drop_succ_cons, List.drop_succ_cons, List.drop_zero, hi]
                have em : min 4 (a :: b :: c :: d :: r).length = 4 := by simp
                rw [em]
                rw [grp4 x y z u hz hu]
                simp only [Option.map_some, List.cons_append, List.nil_append]
                rw [u8_mod (x * 4 + y / 16) ((0 * 64 + x) * 4 + y / 16) (by omega)]
                rfl
        all_goals omega
/-- What the reference's last test leaves. -/
theorem lax_none {s : ByteArray} (h : laxL s.data.toList = none) : readB64O s = none := by
  unfold readB64O
  cases hb : b64D s.data.toList 0 0 with
  | none => rfl
  | some v => rw [b64_lax _ _ v (Nat.le_refl _) hb] at h; cases h
theorem lax_same {s : ByteArray} {v : List UInt8} (h : b64S ⟨v.toArray⟩ = s) : readB64O s = some ⟨v.toArray⟩ := by
  rw [← h, readB64_b64]
theorem lax_other {s : ByteArray} {v : List UInt8} (hl : laxL s.data.toList = some v) (h : b64S ⟨v.toArray⟩ ≠ s) : readB64O s = none := by
  cases hr : readB64O s with
  | none => rfl
  | some t =>
    exfalso
    have h1 := b64_readB64 hr
    simp only [readB64O, Option.map_eq_some_iff] at hr
    obtain ⟨m, hm, rfl⟩ := hr
    rw [b64_lax _ _ m (Nat.le_refl _) hm] at hl
    cases hl
    exact h h1
theorem laxL_len (n : Nat) : ∀ (t v : List UInt8), t.length ≤ n → laxL t = some v → v.length ≤ t.length := by
  induction n with
  | zero =>
    intro t v hl h
    have : t = [] := List.eq_nil_of_length_eq_zero (by omega)
    subst this
    rw [laxL_nil] at h; cases h; exact Nat.le_refl _
  | succ n ih =>
    intro t v hl h
    by_cases ht : t = []
    · subst ht; rw [laxL_nil] at h; cases h; exact Nat.le_refl _
    · rw [laxL_else ht] at h
      have hp := List.length_pos_iff.2 ht
      cases ha : accO t 4 with
      | none => rw [ha] at h; cases h
      | some m =>
        rw [ha, Option.bind_some] at h
        by_cases h1 : t.length = 1
        · rw [if_pos h1] at h; cases h
        · rw [if_neg h1, Option.map_eq_some_iff] at h
          obtain ⟨w, hw, rfl⟩ := h
          have := ih (t.drop 4) w (by simp; omega) hw
          have hg : (grpL m (min 4 t.length)).length ≤ min 4 t.length := by
            unfold grpL
            split <;> split <;> simp <;> omega
          simp at this ⊢; omega
end Go.Proofs.YtiiioefjdebggaaGreatDoor

/- identityref02.First. -/
namespace Go.Proofs.YtiiioefjdebggaaGreatDoor
open Go.RowKit

theorem cutI_none {s : ByteArray} {c : UInt8} (h : c ∉ s.data.toList) : cutI s c = -1 := by
  have hg := Lib.indexByte_ge s.data.toList c
  by_cases h0 : 0 ≤ cutI s c
  · obtain ⟨i, hi⟩ := Int.eq_ofNat_of_zero_le h0
    have := ((cutI_eq s c i).1 hi).2
    exact absurd (List.mem_iff_getElem?.2 ⟨i, this⟩) h
  · have : cutI s c = Lib.indexByte s.data.toList c := rfl
    omega
theorem not_take {s : ByteArray} {c : UInt8} {k : Nat} (hk : k < s.size) (hc : s[k] ≠ c) (hn : c ∉ s.data.toList.take k) : c ∉ s.data.toList.take (k + 1) := by
  have hl : k < s.data.toList.length := by simpa using hk
  rw [List.take_succ_eq_append_getElem hl]
  intro h
  rw [List.mem_append] at h
  rcases h with h | h
  · exact hn h
  · rw [List.mem_singleton] at h; exact hc h.symm
set_option maxHeartbeats 1000000 in
theorem rfirst_any (s : ByteArray) (c : UInt8) (w : World) (hs : s.size ≤ 9223372036854775807) :
    Calls Tryz.prog 116 #[.string s, .int .u8 (c.toNat : Int)] w fun e w' => e = .returned (.int .i64 (cutI s c)) ∧ w = w' := by
  go_enter Tryz.func116, Tryz.ntmps116
  go_wp2_with fail
  go_loop [5] (fun i => ∃ k : Nat, k ≤ s.size ∧ i = .int .i64 k ∧ Hid (c ∉ s.data.toList.take k)) (fun i => s.size - (intOf i).toNat)
  case atStart => exact ⟨0, Nat.zero_le _, rfl, Lib.hid (by simp)⟩
  case round =>
    obtain ⟨k, hk, rfl, HN⟩ := hrel
    by_cases hlt : k < s.size
    · by_cases hc : s[k] = c
      · have hceq : ((s[k].toNat : Int) == (c.toNat : Int)) = true := by rw [hc]; simp
        have HV : Hid (cutI s c = k) := Lib.hid ((cutI_eq s c k).2 ⟨HN.out, by rw [List.getElem?_eq_getElem (by simpa using hlt)]; exact congrArg some hc⟩)
        clear hc
        go_wp2_with fail
        go_ret
        exact ⟨ret_int HV.out.symm, rfl⟩
      · have HC := Lib.hid hc
        have hcne : ((s[k].toNat : Int) == (c.toNat : Int)) = false := by
          rw [beq_eq_false_iff_ne]
          intro e
          exact hc (UInt8.toNat_inj.1 (by omega))
        clear hc
        go_wp2_with fail
        go_round
        case rel => exact ⟨k + 1, hlt, by go_num, Lib.hid (not_take hlt HC.out HN.out)⟩
        case measure => simp [intOf]; omega
    · have HV : Hid (cutI s c = -1) := Lib.hid (cutI_none (by have h := HN.out; rwa [List.take_of_length_le (by simp; omega)] at h))
      go_wp2_with fail
      go_ret
      exact ⟨ret_int HV.out.symm, rfl⟩
end Go.Proofs.YtiiioefjdebggaaGreatDoor

