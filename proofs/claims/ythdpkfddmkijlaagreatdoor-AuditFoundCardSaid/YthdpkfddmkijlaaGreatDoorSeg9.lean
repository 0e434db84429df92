/- Joined: AudRef, AudRef2, AudRef3, AudEq, AudRef4, AudSample, LawStrs. -/
import Derived.Test.YthdpkfddmkijlaaGreatDoorSeg8
import Derived.Test.YthdpkfddmkijlaaGreatDoorSeg3
import Derived.BigQuiet
import Derived.Deep.QuietTactic
import Derived.Laws.StructEq
import Derived.Test.YthdpkfddmkijlaaGreatDoorSeg1
import Derived.Test.YthdpkfddmkijlaaGreatDoorSeg6
import Derived.SliceStrings
/- The reference's log. -/
namespace Go.Proofs.YthdpkfddmkijlaaGreatDoor
open Go.RowKit

def NewRL (w : World) (e : Ending) (w' : World) : Prop := ∃ g v, e = .returned (.pointer (some ⟨g, 0, none⟩)) ∧ RLSt w' w.heap.size g v []
set_option maxRecDepth 100000 in
theorem rlnew_any (w : World) : Calls Tryz.prog 23 #[] w fun e w' => NewRL w e w' ∧ Below w.heap.size w w' := by
  go_enter Tryz.func23, Tryz.ntmps23
  go_wp2_with fail
  go_ret
  exact ⟨⟨w.heap.size, .slice none 0 0, rfl, ⟨Nat.le_refl _, heap_alloc_new w _, World.ownsRow_nil _ _ _ _, by simp [Value.ownBlock], fun e he => by simp at he, fun e he => by simp at he⟩⟩, (Below.refl _ _).alloc (Nat.le_refl _) _⟩
set_option maxRecDepth 100000 in
theorem rlmade_any (w : World) (B g : Nat) (v : Value) (l : List Ev) (h : RLSt w B g v l) :
    Calls Tryz.prog 63 #[.pointer (some ⟨g, 0, none⟩)] w fun e w' => e = .returned (.bool true) ∧ w = w' := by
  have c0 : w.cell? ⟨g, 0, none⟩ = some (.bool true) := cell_of_row w g 0 _ _ (0, 0) h.row
  clear h
  go_enter Tryz.func63, Tryz.ntmps63
  go_wp2_with fail
  go_ret
  exact ⟨rfl, rfl⟩
theorem own_none (w : World) (B : Nat) (hB : B ≤ w.heap.size) (e : TypeId) (size : Nat) : (w.alloc (.cells #[] e)).ownsRow B e size (.slice (some ⟨w.heap.size, 0, none⟩) 0 0) 0 [] :=
  ⟨by simp, .inr ⟨w.heap.size, 0, #[], rfl, hB, heap_alloc_new w _, Nat.le_refl _, Nat.zero_le _, by simp, by simp⟩⟩
set_option maxHeartbeats 4000000 in
set_option maxRecDepth 100000 in
theorem rlall_any (w : World) (B g : Nat) (v : Value) (l : List Ev) (h : RLSt w B g v l) (hl : l.length ≤ 4100) :
    Calls Tryz.prog 34 #[.pointer (some ⟨g, 0, none⟩)] w fun e w' => RetEvs w.heap.size w' e l ∧ Below w.heap.size w w' := by
  obtain ⟨i0, hi, hz0, hz1, hz2⟩ := info_parts info_ev
  have HM := Lib.hid (rlmade_any w B g v l h)
  have c1 : w.cell? ⟨g, 1, none⟩ = some v := cell_of_row w g 1 _ _ (0, 0) h.row
  have hgl := row_lt h.row
  have hwa := (Below.refl w.heap.size w).alloc (Nat.le_refl _) (.cells #[] 24)
  have HWA := Lib.hid hwa
  have HOE := Lib.hid (own_none w w.heap.size (Nat.le_refl _) 24 6)
  clear hwa
  rcases list_evs h.list with ⟨rfl, rfl⟩ | ⟨b, c, rfl, hs⟩
  · clear h
    go_enter Tryz.func34, Tryz.ntmps34
    go_wp2_with fail
    refine (Calls.mono HM.out ?_)
    rintro e w1 ⟨rfl, rfl⟩
    go_wp2_with fail
    go_ret
    exact ⟨⟨_, _, rfl, EvsAt.nil _ _, (fun p hp => by cases hp; exact Nat.le_refl _), Nat.le_refl _⟩, HWA.out⟩
  · have HR := Lib.hid (evs_row (hs.below HWA.out))
    have HZ := Lib.hid (evCs_len l)
    have HO := Lib.hid (evCs_one l)
    clear h hs
    go_enter Tryz.func34, Tryz.ntmps34
    go_wp2_with fail
    refine (Calls.mono HM.out ?_)
    rintro e w1 ⟨rfl, rfl⟩
    go_wp2_with (first
      | (at_builtin; refine wpList_append_own_at _ rfl _ _ 26 rfl w.heap.size 24 i0 _ 6 80 Tryz.underlying26 hi hz0 hz1 hz2 rfl (by decide) (.slice (some ⟨w.heap.size, 0, none⟩) 0 0) 0 [] rfl HOE.out ⟨b, 0, none⟩ l.length c (evCs l) rfl HZ.out HR.out HO.out (by unfold maxLen; omega) (by omega) (by simp) ?_; intro v2 w2 ho2 hg2 _ _; have HO2 := Lib.hid ho2; have HG2 := Lib.hid hg2; clear ho2 hg2)
      | fail)
    go_ret
    refine ⟨?_, HWA.out.grown HG2.out (by simp) (fun k hk => (HOE.out.lt k hk).1)⟩
    have h := HO2.out
    rw [Nat.zero_add, List.nil_append] at h
    exact RetEvs.own h rfl
set_option maxRecDepth 100000 in
theorem rllen_any (w : World) (B g : Nat) (v : Value) (l : List Ev) (h : RLSt w B g v l) (hl : l.length ≤ 4100) :
    Calls Tryz.prog 29 #[.pointer (some ⟨g, 0, none⟩)] w fun e w' => e = .returned (.int .i64 l.length) ∧ Below w.heap.size w w' := by
  have HL := Lib.hid (rlall_any w B g v l h hl)
  clear h
  go_enter Tryz.func29, Tryz.ntmps29
  go_wp2_with fail
  refine (Calls.mono HL.out ?_)
  rintro e w1 ⟨⟨A1, c1, rfl, _, _, _⟩, hb1⟩
  go_wp2_with fail
  go_ret
  exact ⟨rfl, hb1⟩
set_option maxHeartbeats 4000000 in
set_option maxRecDepth 100000 in
theorem rlines_any (l : List Ev) (A : Option Addr) (c : Nat) (w : World) (hS : EvsAt w A l) (hI : ∀ x ∈ l, EvIn x) (hl : l.length ≤ 1000000) :
    Calls Tryz.prog 66 #[.slice A l.length c] w fun e w' => RetStrs w.heap.size w' e (l.map lineS) ∧ Below w.heap.size w w' := by
  obtain ⟨i0, hi, hz0, hz1, hz2⟩ := info_parts Tryz.info_s
  have HS := Lib.hid hS
  have HI := Lib.hid hI
  clear hS hI
  go_enter Tryz.func66, Tryz.ntmps66
  go_wp2_with fail
  go_loopw [3, 4] (fun v i wr => ∃ k : Nat, k ≤ l.length ∧ i = .int .i64 k ∧ wr.ownsRow w.heap.size 9 1 v k (strVs ((l.map lineS).take k)) ∧ Below w.heap.size w wr) (fun _ i _ => l.length - (intOf i).toNat)
  case atStart => exact ⟨0, Nat.zero_le _, rfl, World.ownsRow_nil _ _ _ _, Below.refl _ _⟩
  case round =>
    obtain ⟨k, hk, rfl, hown, hbr⟩ := hrel
    by_cases hlt : k < l.length
    · obtain ⟨b, o, rfl, c0, c1, c2, c3, c4, c5⟩ := (HS.out.below hbr) k hlt
      have hin := HI.out _ (List.getElem_mem hlt)
      have HTK : Hid (strVs ((l.map lineS).take (k + 1)) = strVs ((l.map lineS).take k) ++ [strV (lineS l[k])]) := Lib.hid (by
        rw [List.take_succ_eq_append_getElem (by simpa using hlt), ← strVs_snoc]; simp)
      generalize l[k] = x at *
      obtain ⟨t, tn, ac, an, ob, r⟩ := x
      have d0 : _ = some (Value.int .i64 t) := c0
      have d1 : _ = some (Value.string tn) := c1
      have d2 : _ = some (Value.string ac) := c2
      have d3 : _ = some (Value.string an) := c3
      have d4 : _ = some (Value.string ob) := c4
      have d5 : _ = some (Value.int .i64 r) := c5
      clear c0 c1 c2 c3 c4 c5
      have HIN := Lib.hid hin
      clear hin
      obtain ⟨S, HSS⟩ : ∃ S, Hid (lineS ⟨t, tn, ac, an, ob, r⟩ = S) := ⟨_, Lib.hid rfl⟩
      have B1 := Lib.hid hbr
      have O1 := Lib.hid hown
      rw [HSS.out] at HTK
      clear hown
      go_wp2_with fail
      refine (rline_any ⟨t, tn, ac, an, ob, r⟩ _ HIN.out).mono ?_
      rintro e w2 ⟨rfl, hb2⟩
      rw [HSS.out]
      have B2 := Lib.hid (bthen B1.out hb2)
      have O2 := Lib.hid (own_below O1.out hb2)
      clear hb2 d0 d1 d2 d3 d4 d5
      go_wp2_with (first
        | (at_builtin; refine wpList_append_own _ rfl _ _ 33 rfl w.heap.size 9 i0 (.string ByteArray.empty) 1 16 Tryz.underlying33 hi hz0 hz1 hz2 rfl (by decide) _ _ _ rfl (O2.out.alloc _) ⟨w2.heap.size, 0, none⟩ 1 1 [strV S] rfl rfl (cell_one_new _ _ _) (by intro u hu; simp at hu; subst hu; rfl) (by unfold maxLen; omega) (by omega) (by have := B2.out.size; simp; omega) ?_; intro v' w4 hown4 hg4 _)
        | fail)
      have HB4 : Hid (Below w.heap.size w w4) := Lib.hid ((B2.out.alloc B2.out.size _).grown hg4 (by have := B2.out.size; simp; omega) (fun q hq => (O2.out.lt q hq).1))
      have HO4 : Hid (w4.ownsRow w.heap.size 9 1 v' (k + 1) (strVs ((l.map lineS).take (k + 1)))) := Lib.hid (own_of hown4 HTK.out.symm)
      clear hown4 hg4
      go_wp2_with fail
      go_roundw
      case rel => exact ⟨k + 1, hlt, by go_num, HO4.out, HB4.out⟩
      case measure => simp [intOf]; omega
    · have e0 : (l.map lineS).take k = l.map lineS := List.take_of_length_le (by simp; omega)
      rw [e0] at hown
      have HO := Lib.hid hown
      have HLK : Hid ((l.map lineS).length = k) := Lib.hid (by simp; omega)
      clear hown e0
      go_wp2_with fail
      go_ret
      exact ⟨RetStrs.own HO.out HLK.out (strVs_at _), hbr⟩
end Go.Proofs.YthdpkfddmkijlaaGreatDoor

/- The reference's log: Events, Head, Root, Prove and Add. -/
namespace Go.Proofs.YthdpkfddmkijlaaGreatDoor
open Go.RowKit

theorem rlist {w : World} {B g : Nat} {v : Value} {l : List Ev} (h : RLSt w B g v l) : ∃ A c, v = .slice A l.length c ∧ EvsAt w A l := by
  rcases list_evs h.list with ⟨rfl, rfl⟩ | ⟨b, c, rfl, hs⟩
  · exact ⟨none, 0, rfl, EvsAt.nil _ _⟩
  · exact ⟨_, c, rfl, hs⟩
set_option maxHeartbeats 4000000 in
set_option maxRecDepth 100000 in
theorem rlroot_any (w : World) (B g : Nat) (v : Value) (l : List Ev) (h : RLSt w B g v l) (hl : l.length ≤ 4100) :
    Calls Tryz.prog 38 #[.pointer (some ⟨g, 0, none⟩)] w fun e w' => e = .returned (.string (rootS (l.map lineS))) ∧ Below w.heap.size w w' := by
  have HM := Lib.hid (rlmade_any w B g v l h)
  obtain ⟨A, c, rfl, hs⟩ := rlist h
  have HLI := Lib.hid (rlines_any l A c w hs h.inn (by omega))
  have c1 : w.cell? ⟨g, 1, none⟩ = some (.slice A l.length c) := cell_of_row w g 1 _ _ (0, 0) h.row
  have HSM := Lib.hid (lines_small l)
  have HLN : Hid ((l.map lineS).length ≤ 1000000) := Lib.hid (by rw [List.length_map]; omega)
  clear h hs
  go_enter Tryz.func38, Tryz.ntmps38
  go_wp2_with fail
  refine (Calls.mono HM.out ?_)
  rintro e w1 ⟨rfl, rfl⟩
  go_wp2_with fail
  refine (Calls.mono HLI.out ?_)
  rintro e w2 ⟨⟨A2, c2, rfl, hs2, _⟩, hb2⟩
  obtain ⟨L, HLL⟩ : ∃ L, Hid (l.map lineS = L) := ⟨_, Lib.hid rfl⟩
  rw [HLL.out] at hs2 HSM HLN
  rw [HLL.out]
  have HS2 := Lib.hid hs2
  have HB2 := Lib.hid hb2
  clear hs2 hb2
  go_wp2_with fail
  refine (rroot_any L A2 c2 _ HS2.out HLN.out HSM.out).mono ?_
  rintro e w3 ⟨rfl, hb3⟩
  have HB3 := Lib.hid (bthen HB2.out hb3)
  clear hb3
  go_wp2_with fail
  go_ret
  exact ⟨ret_str (by rw [HLL.out]), HB3.out⟩
set_option maxHeartbeats 4000000 in
set_option maxRecDepth 100000 in
theorem rlprove_any (i : Int) (w : World) (B g : Nat) (v : Value) (l : List Ev) (h : RLSt w B g v l) (hl : l.length ≤ 4100) :
    Calls Tryz.prog 31 #[.pointer (some ⟨g, 0, none⟩), .int .i64 i] w fun e w' => RetStrs2 w.heap.size w' e (pathS (l.map lineS) i) (pathE (l.map lineS) i) ∧ Below w.heap.size w w' := by
  have HM := Lib.hid (rlmade_any w B g v l h)
  obtain ⟨A, c, rfl, hs⟩ := rlist h
  have HLI := Lib.hid (rlines_any l A c w hs h.inn (by omega))
  have c1 : w.cell? ⟨g, 1, none⟩ = some (.slice A l.length c) := cell_of_row w g 1 _ _ (0, 0) h.row
  have HSM := Lib.hid (lines_small l)
  have HLN : Hid ((l.map lineS).length ≤ 1000000) := Lib.hid (by rw [List.length_map]; omega)
  clear h hs
  go_enter Tryz.func31, Tryz.ntmps31
  go_wp2_with fail
  refine (Calls.mono HM.out ?_)
  rintro e w1 ⟨rfl, rfl⟩
  go_wp2_with fail
  refine (Calls.mono HLI.out ?_)
  rintro e w2 ⟨⟨A2, c2, rfl, hs2, _⟩, hb2⟩
  obtain ⟨L, HLL⟩ : ∃ L, Hid (l.map lineS = L) := ⟨_, Lib.hid rfl⟩
  rw [HLL.out] at hs2 HSM HLN
  rw [HLL.out]
  have HS2 := Lib.hid hs2
  have HB2 := Lib.hid hb2
  clear hs2 hb2
  go_wp2_with fail
  refine (rpath_any L A2 c2 i _ HS2.out HLN.out HSM.out).mono ?_
  rintro e w3 ⟨⟨A3, c3, rfl, hs3, hA3, hc3⟩, hb3⟩
  have HB3 := Lib.hid (bthen HB2.out hb3)
  have HS3 := Lib.hid hs3
  have HA3 : Hid (∀ p, A3 = some p → w.heap.size ≤ p.block) := Lib.hid (fun p hp => Nat.le_trans HB2.out.size (hA3 p hp))
  have HC3 := Lib.hid hc3
  clear hb3 hs3 hA3 hc3
  go_wp2_with fail
  go_ret2
  rw [HLL.out]
  exact ⟨⟨A3, c3, rfl, HS3.out, HA3.out, HC3.out⟩, HB3.out⟩
theorem heads_last {l : List Ev} (h : l ≠ []) : (headsF startS l)[l.length - 1]'(by rw [heads_len]; have := List.length_pos_iff.2 h; omega) = headF startS l := by
  have hp := List.length_pos_iff.2 h
  rw [heads_at startS l (l.length - 1) (by omega)]
  rw [List.take_of_length_le (by omega)]
set_option maxHeartbeats 4000000 in
set_option maxRecDepth 100000 in
theorem rlhead_any (w : World) (B g : Nat) (v : Value) (l : List Ev) (h : RLSt w B g v l) (hl : l.length ≤ 4100) :
    Calls Tryz.prog 27 #[.pointer (some ⟨g, 0, none⟩)] w fun e w' => e = .returned (.string (headF startS l)) ∧ Below w.heap.size w w' := by
  have HM := Lib.hid (rlmade_any w B g v l h)
  obtain ⟨A, c, rfl, hs⟩ := rlist h
  have hh := rheads_any l A c w hs h.inn (by omega)
  have hf : firstE l = 0 := firstE_all.2 h.valid
  have e1 : headsS l = headsF startS l := by rw [headsS, if_pos hf]
  rw [hf, e1] at hh
  have HHD := Lib.hid hh
  have c1 : w.cell? ⟨g, 1, none⟩ = some (.slice A l.length c) := cell_of_row w g 1 _ _ (0, 0) h.row
  have HLE := Lib.hid (heads_len startS l)
  clear h hs hh e1 hf
  go_enter Tryz.func27, Tryz.ntmps27
  go_wp2_with fail
  refine (Calls.mono HM.out ?_)
  rintro e w1 ⟨rfl, rfl⟩
  go_wp2_with fail
  refine (Calls.mono HHD.out ?_)
  rintro e w2 ⟨⟨A2, c2, rfl, hs2, _, _⟩, hb2⟩
  have HB2 := Lib.hid hb2
  by_cases h0 : l = []
  · subst h0
    clear hs2 hb2
    have HTT : Hid (textS ⟨#[]⟩ = headF startS []) := Lib.hid rfl
    have hz : (((headsF startS []).length : Int) == 0) = true := rfl
    go_wp2_with fail
    refine (rtext_any ⟨#[]⟩ _ (by decide)).mono ?_
    rintro e w3 ⟨rfl, rfl⟩
    go_wp2_with fail
    go_ret
    exact ⟨ret_str HTT.out, HB2.out⟩
  · have hp := List.length_pos_iff.2 h0
    obtain ⟨b, o, hA, hc⟩ := hs2 (l.length - 1) (by rw [HLE.out]; omega)
    subst hA
    rw [heads_last h0] at hc
    rw [HLE.out]
    have hz : ((l.length : Int) == 0) = false := by rw [beq_eq_false_iff_ne]; omega
    have k1 : (0 : Int) ≤ (l.length : Int) - 1 := by omega
    have k2 : (l.length : Int) - 1 < (l.length : Int) := by omega
    have k3 : ((l.length : Int) - 1).toNat = l.length - 1 := by omega
    have k4 : (1 : Int) ≤ (l.length : Int) := by omega
    obtain ⟨H, HH⟩ : ∃ H, Hid (headF startS l = H) := ⟨_, Lib.hid rfl⟩
    rw [HH.out] at hc
    clear hs2 hb2 h0
    go_wp2_with fail
    go_ret
    exact ⟨ret_str HH.out.symm, HB2.out⟩
end Go.Proofs.YthdpkfddmkijlaaGreatDoor

/- The reference's log: Add and Events; identityref50.Same. -/
namespace Go.Proofs.YthdpkfddmkijlaaGreatDoor
open Go.RowKit

/-- The reference's log behind Add. -/
theorem radd_of {w wa w4 : World} {B g : Nat} {v v' : Value} {l : List Ev} {x : Ev} (hs : RLSt w B g v l) (ha : Below w.heap.size w wa) (hx : lineE x = 0) (hin : EvIn x)
    (hg4 : wa.grownBy w4 v.ownBlock) (ho4 : w4.ownsRow B 24 6 v' (l.length + 1) (evCs l ++ evC x)) (hat : v'.ownBlock = v.ownBlock ∨ ∀ i, v'.ownBlock = some i → wa.heap.size ≤ i) :
    AddR w B g v (addE l x) (w4.setCell ⟨g, 1, none⟩ v') := by
  have hglt := row_lt hs.row
  have hsa := ha.size
  have hne4 : v'.ownBlock ≠ some g := by
    rcases hat with h | h
    · rw [h]; exact hs.ne
    · intro e; have := h g e; omega
  have hr4 : w4.heap[g]? = some (.cells #[.bool true, v] 71 (0, 0)) := by
    rw [hg4.block g (by omega) (fun e => hs.ne e.symm), ha.block g hglt]; exact hs.row
  have hr5 := row_set hr4 1 v'
  rw [addE, if_pos hx]
  refine ⟨v', ⟨hs.base, hr5, ?_, hne4, ?_, ?_⟩, (Keeps.after ha (Keeps.of_grown hg4 (fun i hi => .inr hi))).setCell g 1 v' (.inl (.inl rfl)), ?_⟩
  · rw [List.length_append, ← evCs_snoc]
    exact own_stays ho4 (fun i hi => Below.heap_setCell w4 ⟨g, 1, none⟩ v' i (fun e => hne4 (by rw [hi]; exact congrArg some e)))
  · intro e he
    rw [List.mem_append, List.mem_singleton] at he
    rcases he with he | rfl
    · exact hs.valid e he
    · exact hx
  · intro e he
    rw [List.mem_append, List.mem_singleton] at he
    rcases he with he | rfl
    · exact hs.inn e he
    · exact hin
  · rintro i (rfl | hi)
    · exact .inl (.inl rfl)
    · rcases hat with h | h
      · exact .inl (.inr (by rw [← h]; exact hi))
      · exact .inr (by have := h i hi; omega)
set_option maxHeartbeats 8000000 in
set_option maxRecDepth 100000 in
theorem rladd_any (x : Ev) (w : World) (hin : EvIn x) (B g : Nat) (v : Value) (l : List Ev) (h : RLSt w B g v l) (hB : B ≤ w.heap.size) (hl : l.length ≤ 4000) :
    Calls Tryz.prog 25 #[.pointer (some ⟨g, 0, none⟩), evV x] w fun e w' => e = .returned (.int .i64 (lineE x)) ∧ AddR w B g v (addE l x) w' := by
  obtain ⟨i0, hi, hz0, hz1, hz2⟩ := info_parts info_ev
  obtain ⟨E, HEE⟩ : ∃ E, Hid (lineE x = E) := ⟨_, Lib.hid rfl⟩
  have HST := Lib.hid h
  have HW := Lib.hid hB
  have HIN := Lib.hid hin
  rw [HEE.out]
  obtain ⟨x0, x1, x2, x3, x4, x5⟩ := x
  have HB0 : Hid (Below w.heap.size w (w.alloc (.cells #[.int .i64 x0, .string x1, .string x2, .string x3, .string x4, .int .i64 x5] 24))) := Lib.hid ((Below.refl _ _).alloc (Nat.le_refl _) _)
  have HX0 := Lib.hid (EvBox.new w ⟨x0, x1, x2, x3, x4, x5⟩)
  have hgl := row_lt h.row
  obtain ⟨A, c, hvL, hcL, _, _⟩ := ev_len h.list
  subst hvL
  have t1 : decide ((4096 : Int) ≤ (l.length : Int)) = false := decide_eq_false (by omega)
  show Calls Tryz.prog 25 #[.pointer (some ⟨g, 0, none⟩), .agg #[.int .i64 x0, .string x1, .string x2, .string x3, .string x4, .int .i64 x5]] w _
  clear h hB hin
  go_enter Tryz.func25, Tryz.ntmps25
  go_wp2_with fail
  refine (rlmade_any _ B g _ l (HST.out.below HB0.out)).mono ?_
  rintro e wsame ⟨rfl, rfl⟩
  go_wp2_with fail
  refine (rline_any ⟨x0, x1, x2, x3, x4, x5⟩ _ HIN.out).mono ?_
  rintro e w1 ⟨rfl, hb1⟩
  rw [HEE.out]
  have B1 := Lib.hid (bthen HB0.out hb1)
  have X1 := Lib.hid (HX0.out.below hb1)
  have L1 := Lib.hid (HST.out.below B1.out)
  clear hb1
  by_cases hE : E = 0
  · have HZE := Lib.hid hE
    have t0 : (E != 0) = false := by rw [hE]; rfl
    clear hE
    have c0 : w1.cell? ⟨g, 1, none⟩ = some (.slice A l.length c) := cell_of_row w1 g 1 _ _ (0, 0) L1.out.row
    have hgl1 := row_lt L1.out.row
    obtain ⟨k0, k1, k2, k3, k4, k5⟩ := X1.out.cells
    have HBA : Hid (Below w1.heap.size w1 ((w1.alloc (.cells #[.int .i64 x0, .string x1, .string x2, .string x3, .string x4, .int .i64 x5] 24)).drew)) := Lib.hid (((Below.refl _ _).alloc (Nat.le_refl _) _).drew)
    have HOL := Lib.hid ((L1.out.list.alloc (.cells #[.int .i64 x0, .string x1, .string x2, .string x3, .string x4, .int .i64 x5] 24)).drew)
    have HEN := Lib.hid (evc_at w1 ⟨x0, x1, x2, x3, x4, x5⟩ w1.heap.size rfl)
    go_wp2_with fail
    go_region_law (first
      | (refine step_append_lies _ (by rfl) _ _ _ (by rfl) B 24 i0 _ 6 80 Tryz.underlying26 hi hz0 hz1 hz2 rfl (by omega) (.slice A l.length c) l.length (evCs l) (by rfl) ?_ ⟨w1.heap.size, 0, none⟩ 1 1 (evC ⟨x0, x1, x2, x3, x4, x5⟩) (by rfl) (by rfl) ?_ (evc_one _) (by omega) (by unfold maxLen; omega) (by omega) ?_ (w1.heap.size + 1) ?_ ?_; exact HOL.out; exact HEN.out; (have := HW.out; have := B1.out.size; have := HBA.out.size; simp at *; omega); (simp); (intro gg cap4 w4 ho4 hg4 hat4 hlt4); (have hk4 : w4.heap[g]? = _ := (hg4.block g (by simp; omega) (fun e => L1.out.ne e.symm)).trans ((HBA.out.block g hgl1).trans L1.out.row)); (have r0 : w4.cell? ⟨g, 1, none⟩ = some _ := cell_of_row w4 g 1 _ _ (0, 0) hk4); (have rf0 := row_fr hk4 1); (have HO4 := Lib.hid ho4); (have HG4 := Lib.hid hg4); (have HA4 := Lib.hid hat4); clear hk4 ho4 hg4 hat4 hlt4)
      | fail)
    all_goals
      go_wp2_with fail
      go_ret
      refine ⟨ret_int HZE.out.symm, ?_⟩
      refine radd_of (x := ⟨x0, x1, x2, x3, x4, x5⟩) HST.out (bthen B1.out HBA.out) (HEE.out.trans HZE.out) HIN.out HG4.out HO4.out ?_
      rcases HA4.out with h | h
      · exact .inl h.symm
      · refine .inr (fun i hi => ?_)
        have : gg = i := by simpa [Value.ownBlock] using hi
        simp; omega
  · have HNE := Lib.hid hE
    have t0 : (E != 0) = true := by rw [bne_iff_ne]; exact hE
    clear hE
    go_wp2_with fail
    go_ret
    refine ⟨rfl, ?_⟩
    rw [addE, if_neg (by rw [HEE.out]; exact HNE.out)]
    exact ⟨_, L1.out, Keeps.of_below B1.out _, fun i hi => .inl hi⟩
end Go.Proofs.YthdpkfddmkijlaaGreatDoor

/- Events are compared as values. -/
namespace Go.Proofs.YthdpkfddmkijlaaGreatDoor
open Go.RowKit

instance (a b : Ev) : Decidable (a = b) :=
  if h : a.time = b.time ∧ a.tenant = b.tenant ∧ a.actor = b.actor ∧ a.action = b.action ∧ a.object = b.object ∧ a.result = b.result then .isTrue (Ev.eq h.1 h.2.1 h.2.2.1 h.2.2.2.1 h.2.2.2.2.1 h.2.2.2.2.2)
  else .isFalse (fun e => h (by subst e; exact ⟨rfl, rfl, rfl, rfl, rfl, rfl⟩))
theorem str_beq (a b : ByteArray) : (a.toList == b.toList) = decide (a = b) := by
  by_cases h : a = b
  · rw [decide_eq_true h, h]; simp
  · rw [decide_eq_false h]; exact str_ne h
theorem ev_guard : Tryz.prog.eqGuardType Tryz.prog.depth 24 = false := by kernel_rfl
theorem ev_beq (x y : Ev) (w : World) : (Op.equalIn 10000 24 (.agg #[.int .i64 x.time, .string x.tenant, .string x.actor, .string x.action, .string x.object, .int .i64 x.result]) (.agg #[.int .i64 y.time, .string y.tenant, .string y.actor, .string y.action, .string y.object, .int .i64 y.result])).run Tryz.prog w = .ok (decide (x = y)) w := by
  have u3 := Tryz.underlying3
  have u9 := Tryz.underlying9
  have ue := Tryz.underlying22
  have hS : Tryz.prog.underlying 24 = some (.struct (Tryz.prog.fieldsOf 24)) := by kernel_rfl
  have hp : Tryz.prog.stoodInHeld 24 = false := by kernel_rfl
  have hd : decide (x = y) = (x.time == y.time && (x.tenant.toList == y.tenant.toList && (x.actor.toList == y.actor.toList && (x.action.toList == y.action.toList && (x.object.toList == y.object.toList && x.result == y.result))))) := by
    obtain ⟨x0, x1, x2, x3, x4, x5⟩ := x
    obtain ⟨y0, y1, y2, y3, y4, y5⟩ := y
    simp only [str_beq]
    rw [Bool.eq_iff_iff]
    simp [Ev.mk.injEq]
  rw [hd, show (10000 : Nat) = 9999 + 1 from rfl, run_equalIn_agg w 9999 24 _ _ hS hp]
  simp only [Program.fieldsOf, Tryz.underlying24]
  go_simp
  by_cases h1 : x.time = y.time <;> by_cases h2 : x.tenant.toList = y.tenant.toList <;> by_cases h3 : x.actor.toList = y.actor.toList <;> by_cases h4 : x.action.toList = y.action.toList <;> by_cases h5 : x.object.toList = y.object.toList <;> by_cases h6 : x.result = y.result <;> simp [h1, h2, h3, h4, h5, h6]
end Go.Proofs.YthdpkfddmkijlaaGreatDoor

/- The reference's Events; identityref50.Same. -/
namespace Go.Proofs.YthdpkfddmkijlaaGreatDoor
open Go.RowKit

set_option maxHeartbeats 8000000 in
set_option maxRecDepth 100000 in
theorem rlevents_any (tn : ByteArray) (w : World) (B g : Nat) (v : Value) (l : List Ev) (h : RLSt w B g v l) (hl : l.length ≤ 4100) :
    Calls Tryz.prog 36 #[.pointer (some ⟨g, 0, none⟩), .string tn] w fun e w' => RetEvs w.heap.size w' e (ofT l tn) ∧ Below w.heap.size w w' := by
  obtain ⟨i0, hi, hz0, hz1, hz2⟩ := info_parts info_ev
  have HL := Lib.hid (rlall_any w B g v l h hl)
  clear h
  go_enter Tryz.func36, Tryz.ntmps36
  go_wp2_with fail
  refine (Calls.mono HL.out ?_)
  rintro e w1 ⟨⟨A1, c1, rfl, hs1, _, hc1⟩, hb1⟩
  have HS := Lib.hid hs1
  have HB1 := Lib.hid hb1
  clear HL hs1 hb1
  go_wp2_with fail
  go_loopw [5, 7] (fun v i wr => ∃ (k n : Nat), k ≤ l.length ∧ n ≤ k ∧ i = .int .i64 k ∧ Hid ((ofT (l.take k) tn).length = n) ∧ wr.ownsRow w1.heap.size 24 6 v n (evCs (ofT (l.take k) tn)) ∧ Below w1.heap.size w1 wr) (fun _ i _ => l.length - (intOf i).toNat)
  case atStart => exact ⟨0, 0, Nat.zero_le _, Nat.le_refl _, rfl, Lib.hid rfl, World.ownsRow_nil _ _ _ _, Below.refl _ _⟩
  case round =>
    obtain ⟨k, n, hk, hn, rfl, HN, hown, hbr⟩ := hrel
    by_cases hlt : k < l.length
    · obtain ⟨b, o, rfl, d0, d1, d2, d3, d4, d5⟩ := (HS.out.below hbr) k hlt
      have HY := Lib.hid (fun h => ofT_yes (tn := tn) hlt h)
      have HNo := Lib.hid (fun h => ofT_no (tn := tn) hlt h)
      have HOX := Lib.hid hown
      have HBX := Lib.hid hbr
      have HEN := Lib.hid (fun W n h => evc_at' W l[k] n h)
      have HEO := Lib.hid (evc_one l[k])
      have HES := Lib.hid (evCs_snoc (ofT (l.take k) tn) l[k])
      generalize l[k] = x at *
      obtain ⟨x0, x1, x2, x3, x4, x5⟩ := x
      have e0 : _ = some (Value.int .i64 x0) := d0
      have e1 : _ = some (Value.string x1) := d1
      have e2 : _ = some (Value.string x2) := d2
      have e3 : _ = some (Value.string x3) := d3
      have e4 : _ = some (Value.string x4) := d4
      have e5 : _ = some (Value.int .i64 x5) := d5
      clear d0 d1 d2 d3 d4 d5 hown
      by_cases ht : x1 = tn
      · have HT := Lib.hid (HY.out ht)
        have t0 : (x1.toList == tn.toList) = true := by rw [ht]; simp
        have t1 : (x1.toList != tn.toList) = false := by rw [ht]; simp
        clear ht
        go_wp2_with (first
          | (at_builtin; refine wpList_append_own_at _ rfl _ _ 26 rfl w1.heap.size 24 i0 _ 6 80 Tryz.underlying26 hi hz0 hz1 hz2 rfl (by decide) _ n (evCs (ofT (l.take k) tn)) rfl (HOX.out.alloc _) ⟨wr.heap.size, 0, none⟩ 1 1 (evC ⟨x0, x1, x2, x3, x4, x5⟩) rfl rfl (HEN.out _ wr.heap.size rfl) HEO.out (by unfold maxLen; omega) (by omega) (by have := HBX.out.size; simp at *; omega) ?_; intro v2 w2 ho2 hg2 _ _; have HO2 := Lib.hid ho2; have HG2 := Lib.hid hg2; clear ho2 hg2)
          | fail)
        have HB2 : Hid (Below w1.heap.size w1 w2) := Lib.hid ((HBX.out.alloc HBX.out.size _).grown HG2.out (by have := HBX.out.size; simp at this ⊢; omega) (fun q hq => (HOX.out.lt q hq).1))
        have HO3 : Hid (w2.ownsRow w1.heap.size 24 6 v2 (n + 1) (evCs (ofT (l.take (k + 1)) tn))) := Lib.hid (by rw [HT.out, ← HES.out]; exact HO2.out)
        have HN2 : Hid ((ofT (l.take (k + 1)) tn).length = n + 1) := Lib.hid (by rw [HT.out, List.length_append, HN.out]; rfl)
        go_wp2_with fail
        go_roundw
        case rel => exact ⟨k + 1, n + 1, hlt, by omega, by go_num, HN2, HO3.out, HB2.out⟩
        case measure => simp [intOf]; omega
      · have HT := Lib.hid (HNo.out ht)
        have t0 : (x1.toList == tn.toList) = false := str_ne ht
        have t1 : (x1.toList != tn.toList) = true := by rw [bne, t0]; rfl
        clear ht
        go_wp2_with fail
        go_roundw
        case rel => exact ⟨k + 1, n, hlt, by omega, by go_num, Lib.hid (by rw [HT.out]; exact HN.out), by rw [HT.out]; exact HOX.out, HBX.out⟩
        case measure => simp [intOf]; omega
    · have e : l.take k = l := List.take_of_length_le (by omega)
      rw [e] at hown HN
      have HO := Lib.hid hown
      have HN2 := Lib.hid HN.out
      have HBR := Lib.hid (bthen HB1.out hbr)
      clear hown e HN
      go_wp2_with fail
      go_ret
      exact ⟨RetEvs.own (HO.out.mono HB1.out.size) HN2.out, HBR.out⟩
set_option maxHeartbeats 4000000 in
set_option maxRecDepth 100000 in
theorem evsame_any (l m : List Ev) (A B : Option Addr) (c d : Nat) (w : World) (hA : EvsAt w A l) (hB : EvsAt w B m) (hl : l.length ≤ 1000000) (hm : m.length ≤ 1000000) :
    Calls Tryz.prog 32 #[.slice A l.length c, .slice B m.length d] w fun e w' => e = .returned (.bool (decide (l = m))) ∧ Below w.heap.size w w' := by
  by_cases hlen : l.length = m.length
  · have hb : ((l.length : Int) != (m.length : Int)) = false := by rw [hlen]; simp
    have HL := Lib.hid hlen
    have hlm : l.length ≤ m.length := by omega
    clear hlen
    go_enter Tryz.func32, Tryz.ntmps32
    go_wp2
    go_loopw [5] (fun i wr => ∃ k : Nat, k ≤ l.length ∧ i = .int .i64 k ∧ l.take k = m.take k ∧ Below w.heap.size w wr) (fun i _ => l.length - (intOf i).toNat)
    case atStart => exact ⟨0, by omega, rfl, rfl, Below.refl _ _⟩
    case round =>
      obtain ⟨k, hk, rfl, htk, hbr⟩ := hrel
      have HT := Lib.hid htk
      clear htk
      by_cases hlt : k < l.length
      · obtain ⟨b, o, rfl, p0, p1, p2, p3, p4, p5⟩ := (hA.below hbr) k hlt
        obtain ⟨b2, o2, rfl, q0, q1, q2, q3, q4, q5⟩ := (hB.below hbr) k (by omega)
        have i1 : (0 : Int) ≤ (k : Int) := by omega
        have i2 : (k : Int) < (l.length : Int) := by omega
        have i3 : (k : Int) < (m.length : Int) := by omega
        have HSY : Hid (l[k] = m[k] → l.take (k + 1) = m.take (k + 1)) := Lib.hid (fun he => by
          rw [List.take_succ_eq_append_getElem hlt, List.take_succ_eq_append_getElem (by omega), HT.out, he])
        have HSN : Hid (l[k] ≠ m[k] → decide (l = m) = false) := Lib.hid (fun he => by
          rw [decide_eq_false_iff_not]
          intro e
          subst e
          exact he rfl)
        generalize l[k] = x at *
        generalize m[k] = y at *
        obtain ⟨x0, x1, x2, x3, x4, x5⟩ := x
        obtain ⟨y0, y1, y2, y3, y4, y5⟩ := y
        have p0' : _ = some (Value.int .i64 x0) := p0
        have p1' : _ = some (Value.string x1) := p1
        have p2' : _ = some (Value.string x2) := p2
        have p3' : _ = some (Value.string x3) := p3
        have p4' : _ = some (Value.string x4) := p4
        have p5' : _ = some (Value.int .i64 x5) := p5
        have q0' : _ = some (Value.int .i64 y0) := q0
        have q1' : _ = some (Value.string y1) := q1
        have q2' : _ = some (Value.string y2) := q2
        have q3' : _ = some (Value.string y3) := q3
        have q4' : _ = some (Value.string y4) := q4
        have q5' : _ = some (Value.int .i64 y5) := q5
        clear p0 p1 p2 p3 p4 p5 q0 q1 q2 q3 q4 q5
        have kg := ev_guard
        have KQ := Lib.hid (fun w => ev_beq ⟨x0, x1, x2, x3, x4, x5⟩ ⟨y0, y1, y2, y3, y4, y5⟩ w)
        by_cases he : (⟨x0, x1, x2, x3, x4, x5⟩ : Ev) = ⟨y0, y1, y2, y3, y4, y5⟩
        · have HS2 := Lib.hid (HSY.out he)
          have kq : ∀ w, (Op.equalIn 10000 24 (.agg #[.int .i64 x0, .string x1, .string x2, .string x3, .string x4, .int .i64 x5]) (.agg #[.int .i64 y0, .string y1, .string y2, .string y3, .string y4, .int .i64 y5])).run Tryz.prog w = .ok true w := fun w => (KQ.out w).trans (by rw [decide_eq_true he])
          clear he
          go_wp2
          go_quiet (fail)
          go_wp2_with fail
          go_roundw
          case rel => exact ⟨k + 1, by omega, by go_num, HS2.out, below_drewN hbr _⟩
          case measure => simp [intOf]; omega
        · have HS2 := Lib.hid (HSN.out he)
          have kq : ∀ w, (Op.equalIn 10000 24 (.agg #[.int .i64 x0, .string x1, .string x2, .string x3, .string x4, .int .i64 x5]) (.agg #[.int .i64 y0, .string y1, .string y2, .string y3, .string y4, .int .i64 y5])).run Tryz.prog w = .ok false w := fun w => (KQ.out w).trans (by rw [decide_eq_false he])
          clear he
          go_wp2
          go_quiet (fail)
          go_wp2_with fail
          go_ret
          exact ⟨ret_bool HS2.out.symm, below_drewN hbr _⟩
      · have HS : Hid (decide (l = m) = true) := by
          show _ = _
          rw [decide_eq_true_iff]
          have h1 := HT.out
          rw [List.take_of_length_le (by omega), List.take_of_length_le (by have := HL.out; omega)] at h1
          exact h1
        go_wp2
        go_ret
        exact ⟨ret_bool HS.out.symm, hbr⟩
  · have hb : ((l.length : Int) != (m.length : Int)) = true := by rw [bne_iff_ne]; omega
    have HS : Hid (decide (l = m) = false) := by
      show _ = _
      rw [decide_eq_false_iff_not]
      intro e
      exact hlen (by rw [e])
    clear hlen
    go_enter Tryz.func32, Tryz.ntmps32
    go_wp2
    go_ret
    exact ⟨ret_bool HS.out.symm, Below.refl _ _⟩
end Go.Proofs.YthdpkfddmkijlaaGreatDoor

/- The law's sample, and what is known of it. -/
namespace Go.Proofs.YthdpkfddmkijlaaGreatDoor
open Go.RowKit

def smp : Ev := ⟨5, ⟨#[116]⟩, ⟨#[97, 110, 110]⟩, ⟨#[108, 111, 103, 105, 110]⟩, ⟨#[115, 49]⟩, 0⟩
def smpY : Ev := ⟨5, ⟨#[116]⟩, ⟨#[97, 110, 110]⟩, ⟨#[]⟩, ⟨#[115, 49]⟩, 0⟩
theorem smp_line : lineE smp = 0 ∧ lineS smp = ⟨#[53, 124, 116, 124, 97, 110, 110, 124, 108, 111, 103, 105, 110, 124, 115, 49, 124, 48]⟩ := by decide +kernel
theorem smp_bad : lineE smpY = 5 := by decide +kernel
theorem smp_in : EvIn smp := ⟨by decide, by decide, by decide, by decide, by decide, by decide, by decide, by decide⟩
theorem smpY_in : EvIn smpY := ⟨by decide, by decide, by decide, by decide, by decide, by decide, by decide, by decide⟩
set_option maxHeartbeats 2000000 in
set_option maxRecDepth 100000 in
theorem sample_any (w : World) : Calls Tryz.prog 43 #[] w fun e w' => e = .returned (evV smp) ∧ Below w.heap.size w w' := by
  go_enter Tryz.func43, Tryz.ntmps43
  go_wp2_with fail
  refine bodyPost_ret (v := evV smp) (by simp [results, Tryz.results43, go_sem, evV, smp]) rfl ⟨rfl, ?_⟩
  exact (Below.refl _ _).alloc (Nat.le_refl _) _
/-- What the chapter's examples compute. -/
theorem smp_heads : firstE [smp, smp] = 0 ∧ headsS [smp, smp] = [chainS startS (lineS smp), chainS (chainS startS (lineS smp)) (lineS smp)] := by
  have h1 := smp_line.1
  have hf : firstE [smp, smp] = 0 := by rw [firstE, if_pos h1, firstE, if_pos h1]; rfl
  exact ⟨hf, by rw [headsS, if_pos hf]; rfl⟩
theorem smp_head : headF startS [smp, smp] = chainS (chainS startS (lineS smp)) (lineS smp) := rfl
theorem smp_verify : verS [smp, smp] [chainS startS (lineS smp), chainS (chainS startS (lineS smp)) (lineS smp)] = -1 ∧ verS [smp, smp] [chainS startS (lineS smp)] = 1 ∧ verS [smp] [chainS startS (lineS smp), chainS (chainS startS (lineS smp)) (lineS smp)] = 1 := by
  have h1 := smp_line.1
  generalize hs : lineS smp = S
  generalize hc : chainS startS S = C
  refine ⟨?_, ?_, ?_⟩
  · rw [verS, verF, if_pos ⟨h1, by rw [hs, hc]⟩, verF, if_pos ⟨h1, by rw [hs, hc]⟩]; rfl
  · rw [verS, verF, if_pos ⟨h1, by rw [hs, hc]⟩]; rfl
  · rw [verS, verF, if_pos ⟨h1, by rw [hs, hc]⟩]; rfl
theorem smp_tenants : (ofT [smp, smp] ⟨#[116]⟩).length = 2 ∧ (ofT [smp, smp] ⟨#[117]⟩).length = 0 := by decide +kernel
theorem smp_proves (S : ByteArray) : provesS (rootS [S, S]) S 1 2 (pathS [S, S] 1) = true := proven [S, S] 1 (by simp)
theorem smp_paths (S : ByteArray) : pathE [S, S] 1 = 0 ∧ pathE [S, S] 2 = 27 := by
  constructor <;> simp [pathE, pathIn]
end Go.Proofs.YthdpkfddmkijlaaGreatDoor

/- How long paths are. -/
namespace Go.Proofs.YthdpkfddmkijlaaGreatDoor
open Go.ChangeShapes Go.WideShapes Go.ChangeAt Go.RowKit

theorem pathF_length (f : Nat) : ∀ (l : List ByteArray) (i : Nat), (pathF f l i).length ≤ f := by
  induction f with
  | zero => intro l i; simp [pathF]
  | succ f ih =>
    intro l i
    rw [pathF]
    split
    · simp
    · rw [List.length_append]
      have h1 : (sibL l i).length ≤ 1 := by
        unfold sibL
        split
        · simp
        · split <;> simp
      have := ih (upL l) (i / 2)
      omega
theorem pathS_length (l : List ByteArray) (i : Int) (h : l.length ≤ 1000000) : (pathS l i).length ≤ 1000000 := by
  unfold pathS
  split
  · have := pathF_length l.length (leavesL l) i.toNat; omega
  · simp
end Go.Proofs.YthdpkfddmkijlaaGreatDoor

