/- identityref28.Bound agrees with proof.Bound. -/
import Derived.Test.YtfiogpoofpajcaaDoorPfBind
import Derived.Lib.IndexBytes
namespace Go.Proofs.YtfiogpoofpajcaaDoor
open Go.RowKit

theorem indexByte_eq (l : List UInt8) (c : UInt8) : ∀ i : Nat, Lib.indexByte l c = i ↔ (c ∉ l.take i ∧ l[i]? = some c) := by
  induction l with
  | nil => intro i; simp [Lib.indexByte]
  | cons b r ih =>
    intro i
    have hg := Lib.indexByte_ge r c
    unfold Lib.indexByte
    by_cases hb : b = c
    · subst hb
      cases i with
      | zero => simp
      | succ i => simp; omega
    · have hb' : (b == c) = false := by simpa using hb
      rw [hb']
      cases i with
      | zero =>
        simp only [Bool.false_eq_true, if_false, List.take_zero, List.not_mem_nil, not_false_eq_true, true_and, List.getElem?_cons_zero, Option.some.injEq, hb, iff_false]
        by_cases hr : Lib.indexByte r c = -1
        · simp [hr]
        · simp [hr]; omega
      | succ i =>
        have := ih i
        simp only [Bool.false_eq_true, if_false, List.take_succ_cons, List.mem_cons, not_or, List.getElem?_cons_succ, Ne.symm hb, not_false_eq_true, true_and]
        have hbc : ¬ c = b := fun e => hb e.symm
        rw [← this]
        by_cases hr : Lib.indexByte r c = -1
        · simp [hr]; omega
        · simp [hr]
theorem cutI_eq (s : ByteArray) (c : UInt8) (i : Nat) : cutI s c = i ↔ (c ∉ s.data.toList.take i ∧ s.data.toList[i]? = some c) := indexByte_eq _ c i
theorem ext_front (s : ByteArray) (i : Nat) : (s.extract 0 i).data.toList = s.data.toList.take i := by
  simp [ByteArray.data_extract]
theorem ext_back (s : ByteArray) (i : Nat) : (s.extract i s.size).data.toList = s.data.toList.drop i := Lib.extract_to_end s i
/-- What stands round a byte. -/
theorem split_at (s : ByteArray) (c : UInt8) (i : Nat) (h : s.data.toList[i]? = some c) : s.extract 0 i ++ ⟨#[c]⟩ ++ s.extract (i + 1) s.size = s := by
  apply ByteArray.ext
  apply Array.toList_inj.1
  rw [ByteArray.data_append, ByteArray.data_append, Array.toList_append, Array.toList_append, ext_front, ext_back]
  obtain ⟨hi, he⟩ := List.getElem?_eq_some_iff.1 h
  have : s.data.toList = s.data.toList.take i ++ s.data.toList.drop i := (List.take_append_drop i _).symm
  conv => rhs; rw [this, List.drop_eq_getElem_cons hi, he]
  simp
theorem plain_nodot {s : ByteArray} (h : plainS s = true) : (46 : UInt8) ∉ s.data.toList := by
  intro hm
  simp only [plainS, Bool.and_eq_true, List.all_eq_true] at h
  have := h.2 _ hm
  simp [plainC, alnumC] at this

/-- proof.Bound, as the reference has it. -/
def boundR (a b s : ByteArray) : ByteArray × Int :=
  if plainS b = true ∧ 17 ≤ s.size ∧ s.data.toList[s.size - 17]? = some 46 ∧ plainS (s.extract 0 (s.size - 17)) = true ∧ (readHexO (s.extract (s.size - 17 + 1) s.size)).isSome = true then (if bindS a b (s.extract 0 (s.size - 17)) = s then (s.extract 0 (s.size - 17), 0) else (⟨#[]⟩, 20)) else (⟨#[]⟩, 4)
theorem readHex_size {s : ByteArray} (h : (readHexO s).isSome = true) : s.size = 16 := by
  unfold readHexO at h
  split at h
  · assumption
  · simp at h
theorem app_right_inj {a b c d : ByteArray} (h : a ++ b ++ c = a ++ b ++ d) : c = d := by
  have := congrArg (fun x : ByteArray => x.data.toList) h
  simp [ByteArray.data_append] at this
  exact ByteArray.ext this
theorem bound_eq (a b s : ByteArray) : boundR a b s = boundP a b s := by
  by_cases hR : plainS b = true ∧ 17 ≤ s.size ∧ s.data.toList[s.size - 17]? = some 46 ∧ plainS (s.extract 0 (s.size - 17)) = true ∧ (readHexO (s.extract (s.size - 17 + 1) s.size)).isSome = true
  · obtain ⟨h1, h2, h3, h4, h5⟩ := hR
    have hI : cutI s 46 = ((s.size - 17 : Nat) : Int) := by
      rw [cutI_eq]
      refine ⟨?_, h3⟩
      rw [← ext_front]
      exact plain_nodot h4
    have hO : cutOk s 46 = true := by rw [cutOk, hI]; simp
    have hB : cutB s 46 = s.extract 0 (s.size - 17) := by rw [cutB, hI, if_pos (by omega), Int.toNat_natCast]
    have hA : cutA s 46 = s.extract (s.size - 17 + 1) s.size := by rw [cutA, hI, if_pos (by omega), Int.toNat_natCast]
    have eP : boundP a b s = if s.extract (s.size - 17 + 1) s.size = codeS a b (s.extract 0 (s.size - 17)) then (s.extract 0 (s.size - 17), 0) else (⟨#[]⟩, 20) := by
      rw [boundP, hB, hA, if_pos ⟨hO, h1, h4, h5⟩]
    have eB : bindS a b (s.extract 0 (s.size - 17)) = s.extract 0 (s.size - 17) ++ ⟨#[46]⟩ ++ codeS a b (s.extract 0 (s.size - 17)) := by rw [bindS, if_pos ⟨h1, h4⟩]
    rw [boundR, if_pos ⟨h1, h2, h3, h4, h5⟩, eP, eB]
    have hs := split_at s 46 (s.size - 17) h3
    by_cases hc : s.extract (s.size - 17 + 1) s.size = codeS a b (s.extract 0 (s.size - 17))
    · rw [if_pos hc, if_pos (by rw [← hc]; exact hs)]
    · rw [if_neg hc, if_neg (fun h => hc (app_right_inj (hs.trans h.symm)))]
  · rw [boundR, if_neg hR, boundP, if_neg]
    rintro ⟨h1, h2, h3, h4⟩
    apply hR
    have h0 : 0 ≤ cutI s 46 := by simpa [cutOk] using h1
    obtain ⟨i, hi⟩ := Int.eq_ofNat_of_zero_le h0
    have hB : cutB s 46 = s.extract 0 i := by rw [cutB, hi, if_pos (by omega), Int.toNat_natCast]
    have hA : cutA s 46 = s.extract (i + 1) s.size := by rw [cutA, hi, if_pos (by omega), Int.toNat_natCast]
    have hz := readHex_size h4
    rw [hA] at hz
    simp only [ByteArray.size_extract] at hz
    have hi17 : i = s.size - 17 := by omega
    have hI := (cutI_eq s 46 i).1 hi
    rw [hB, hi17] at h3
    rw [hA, hi17] at h4
    rw [hi17] at hI
    exact ⟨h2, by omega, hI.2, h3, h4⟩
theorem at_byte {s : ByteArray} {k : Nat} (h : k < s.size) (c : UInt8) : s.data.toList[k]? = some c ↔ s[k].toNat = c.toNat := by
  rw [List.getElem?_eq_getElem (by simpa using h), Option.some.injEq, ← UInt8.toNat_inj]; rfl

set_option maxHeartbeats 2000000 in
theorem rbound_any (a b s : ByteArray) (w : World) (ha : a.size ≤ 300) (hb : b.size ≤ 300) (hs : s.size ≤ 317) :
    Calls Tryd.prog 24 #[.string a, .string b, .string s] w fun e w' => e = .returned (.tuple #[.string (boundP a b s).1, .int .i64 (boundP a b s).2]) ∧ w = w' := by
  have HP : Hid (boundP a b s = boundR a b s) := (bound_eq a b s).symm
  generalize boundP a b s = q at *
  cases h1 : plainS b with
  | false =>
    have HQ : Hid (q = (⟨#[]⟩, 4)) := by show _ = _; rw [HP.out, boundR]; simp [h1]
    go_enter Tryd.func24, Tryd.ntmps24
    go_wp2_with fail
    refine (rplain_any b _ (by omega)).mono ?_
    rintro e w2 ⟨rfl, rfl⟩
    rw [h1]
    clear h1
    go_wp2_with fail
    go_ret2
    exact ⟨ret_se (congrArg Prod.fst HQ.out.symm) (congrArg Prod.snd HQ.out.symm), rfl⟩
  | true =>
    by_cases h17 : 17 ≤ s.size
    · obtain ⟨k, hk⟩ : ∃ k, s.size = k + 17 := ⟨s.size - 17, by omega⟩
      have hk17 : s.size - 17 = k := by omega
      have HR : Hid (boundR a b s = if plainS b = true ∧ 17 ≤ s.size ∧ s.data.toList[k]? = some 46 ∧ plainS (s.extract 0 k) = true ∧ (readHexO (s.extract (k + 1) s.size)).isSome = true then (if bindS a b (s.extract 0 k) = s then (s.extract 0 k, 0) else (⟨#[]⟩, 20)) else (⟨#[]⟩, 4)) := by show _ = _; rw [boundR, hk17]
      have hkl : k < s.size := by omega
      have hat := at_byte hkl 46
      have hsz : (s.size : Int) - 17 = (k : Int) := by omega
      have he1 : (s.extract 0 k).size = k := by simp [ByteArray.size_extract]; omega
      have he2 : (s.extract (k + 1) s.size).size = 16 := by simp [ByteArray.size_extract]; omega
      have HE1 := Lib.hid he1
      have HE2 := Lib.hid he2
      have HAT := Lib.hid hat
      clear hk hk17 he1 he2 hat h17
      by_cases h46 : s[k].toNat = 46
      · have hbb : ((s[k].toNat : Int) != 46) = false := by rw [h46]; rfl
        have H3 : Hid (s.data.toList[k]? = some 46) := HAT.out.2 (by rw [h46]; rfl)
        clear h46
        cases h2 : plainS (s.extract 0 k) with
        | false =>
          have HQ : Hid (q = (⟨#[]⟩, 4)) := by show _ = _; rw [HP.out, HR.out]; simp [h2]
          go_enter Tryd.func24, Tryd.ntmps24
          go_wp2_with fail
          refine (rplain_any b _ (by omega)).mono ?_
          rintro e w2 ⟨rfl, rfl⟩
          rw [h1]
          clear h1
          go_wp2_with fail
          refine (rplain_any _ _ (by have := HE1.out; omega)).mono ?_
          rintro e w2 ⟨rfl, rfl⟩
          rw [h2]
          clear h2
          go_wp2_with fail
          go_ret2
          exact ⟨ret_se (congrArg Prod.fst HQ.out.symm) (congrArg Prod.snd HQ.out.symm), rfl⟩
        | true =>
          cases h3 : (readHexO (s.extract (k + 1) s.size)).isSome with
          | false =>
            have HQ : Hid (q = (⟨#[]⟩, 4)) := by show _ = _; rw [HP.out, HR.out]; simp [h3]
            have he : readHexE (s.extract (k + 1) s.size) = 4 := by simp [readHexE, h3]
            have HE := Lib.hid he
            clear h3 he
            go_enter Tryd.func24, Tryd.ntmps24
            go_wp2_with fail
            refine (rplain_any b _ (by omega)).mono ?_
            rintro e w2 ⟨rfl, rfl⟩
            rw [h1]
            clear h1
            go_wp2_with fail
            refine (rplain_any _ _ (by have := HE1.out; omega)).mono ?_
            rintro e w2 ⟨rfl, rfl⟩
            rw [h2]
            clear h2
            go_wp2_with fail
            refine (rreadhex_any _ _ (by have := HE2.out; omega)).mono ?_
            rintro e w2 ⟨rfl, rfl⟩
            rw [HE.out]
            go_wp2_with fail
            go_ret2
            exact ⟨ret_se (congrArg Prod.fst HQ.out.symm) (congrArg Prod.snd HQ.out.symm), rfl⟩
          | true =>
            have HQ : Hid (q = if bindS a b (s.extract 0 k) = s then (s.extract 0 k, 0) else (⟨#[]⟩, 20)) := by show _ = _; rw [HP.out, HR.out, if_pos ⟨h1, by omega, H3.out, h2, h3⟩]
            have he : readHexE (s.extract (k + 1) s.size) = 0 := by simp [readHexE, h3]
            have HE := Lib.hid he
            clear h3 he
            by_cases hbs : bindS a b (s.extract 0 k) = s
            · have heb : ((bindS a b (s.extract 0 k)).toList == s.toList) = true := str_eqb hbs
              have HQ2 : Hid (q = (s.extract 0 k, 0)) := by show _ = _; rw [HQ.out, if_pos hbs]
              clear hbs
              go_enter Tryd.func24, Tryd.ntmps24
              go_wp2_with fail
              refine (rplain_any b _ (by omega)).mono ?_
              rintro e w2 ⟨rfl, rfl⟩
              rw [h1]
              clear h1
              go_wp2_with fail
              refine (rplain_any _ _ (by have := HE1.out; omega)).mono ?_
              rintro e w2 ⟨rfl, rfl⟩
              rw [h2]
              clear h2
              go_wp2_with fail
              refine (rreadhex_any _ _ (by have := HE2.out; omega)).mono ?_
              rintro e w2 ⟨rfl, rfl⟩
              rw [HE.out]
              go_wp2_with fail
              refine (rbind_any a b _ _ ha hb (by have := HE1.out; omega)).mono ?_
              rintro e w2 ⟨rfl, rfl⟩
              go_wp2_with fail
              go_ret2
              exact ⟨ret_se (congrArg Prod.fst HQ2.out.symm) (congrArg Prod.snd HQ2.out.symm), rfl⟩
            · have heb : ((bindS a b (s.extract 0 k)).toList == s.toList) = false := str_ne hbs
              have HQ2 : Hid (q = (⟨#[]⟩, 20)) := by show _ = _; rw [HQ.out, if_neg hbs]
              clear hbs
              go_enter Tryd.func24, Tryd.ntmps24
              go_wp2_with fail
              refine (rplain_any b _ (by omega)).mono ?_
              rintro e w2 ⟨rfl, rfl⟩
              rw [h1]
              clear h1
              go_wp2_with fail
              refine (rplain_any _ _ (by have := HE1.out; omega)).mono ?_
              rintro e w2 ⟨rfl, rfl⟩
              rw [h2]
              clear h2
              go_wp2_with fail
              refine (rreadhex_any _ _ (by have := HE2.out; omega)).mono ?_
              rintro e w2 ⟨rfl, rfl⟩
              rw [HE.out]
              go_wp2_with fail
              refine (rbind_any a b _ _ ha hb (by have := HE1.out; omega)).mono ?_
              rintro e w2 ⟨rfl, rfl⟩
              go_wp2_with fail
              go_ret2
              exact ⟨ret_se (congrArg Prod.fst HQ2.out.symm) (congrArg Prod.snd HQ2.out.symm), rfl⟩
      · have hbb : ((s[k].toNat : Int) != 46) = true := by rw [bne_iff_ne]; omega
        have H3 : Hid (¬ s.data.toList[k]? = some 46) := fun h => h46 (HAT.out.1 h)
        have HQ : Hid (q = (⟨#[]⟩, 4)) := by show _ = _; rw [HP.out, HR.out, if_neg (fun h => H3.out h.2.2.1)]
        clear h46
        go_enter Tryd.func24, Tryd.ntmps24
        go_wp2_with fail
        refine (rplain_any b _ (by omega)).mono ?_
        rintro e w2 ⟨rfl, rfl⟩
        rw [h1]
        clear h1
        go_wp2_with fail
        go_ret2
        exact ⟨ret_se (congrArg Prod.fst HQ.out.symm) (congrArg Prod.snd HQ.out.symm), rfl⟩
    · have HQ : Hid (q = (⟨#[]⟩, 4)) := by show _ = _; rw [HP.out, boundR, if_neg (fun h => h17 h.2.1)]
      have hlt : s.size < 17 := by omega
      clear h17
      go_enter Tryd.func24, Tryd.ntmps24
      go_wp2_with fail
      refine (rplain_any b _ (by omega)).mono ?_
      rintro e w2 ⟨rfl, rfl⟩
      rw [h1]
      clear h1
      go_wp2_with fail
      go_ret2
      exact ⟨ret_se (congrArg Prod.fst HQ.out.symm) (congrArg Prod.snd HQ.out.symm), rfl⟩
end Go.Proofs.YtfiogpoofpajcaaDoor
