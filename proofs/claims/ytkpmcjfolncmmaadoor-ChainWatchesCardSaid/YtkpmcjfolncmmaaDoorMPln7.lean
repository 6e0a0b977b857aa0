/- A log's text cut, or with one byte otherwise: what Parse makes of it. Plain. -/
import Derived.Test.YtkpmcjfolncmmaaDoorMWrk1
import Derived.Test.YtkpmcjfolncmmaaDoorMPln6
set_option linter.all false
namespace Go.Proofs.YtkpmcjfolncmmaaDoor
open Go.RowKit

theorem byteOf_append (a x : ByteArray) (i : Nat) : byteOf (a ++ x) (a.size + i) = byteOf x i := by
  rw [byteOf_nums, byteOf_nums, numsOf_append, List.getD_eq_getElem?_getD, List.getD_eq_getElem?_getD, List.getElem?_append_right (by rw [numsOf_length]; omega), numsOf_length, show a.size + i - a.size = i by omega]
theorem extract_front (a x : ByteArray) (j : Nat) : (a ++ x).extract 0 (a.size + j) = a ++ x.extract 0 j := by
  apply numsOf_inj
  rw [numsOf_extract, numsOf_append, numsOf_append, numsOf_extract, List.drop_zero, List.drop_zero, ← numsOf_length a, List.take_length_add_append]
theorem setB_append (a x : ByteArray) (p : Nat) {y : Int} (hy : 0 ≤ y ∧ y ≤ 255) : setB (a ++ x) (a.size + p) y = a ++ setB x p y := by
  apply numsOf_inj
  rw [numsOf_setB _ _ hy, numsOf_append, numsOf_append, numsOf_setB _ _ hy, List.set_append_right _ _ (by rw [numsOf_length]; omega), numsOf_length, show a.size + p - a.size = p by omega]
theorem byteOf_front (t : ByteArray) (n i : Nat) (h : i < n) : byteOf (t.extract 0 n) i = byteOf t i := by
  rw [byteOf_nums, byteOf_nums, numsOf_extract, List.drop_zero, List.getD_eq_getElem?_getD, List.getD_eq_getElem?_getD, List.getElem?_take_of_lt h]
theorem longF_extract (t : ByteArray) (n : Nat) (h2 : 2 ≤ n) (hn : n ≤ t.size) : longF (t.extract 0 n) = longF t := by
  have hz : (t.extract 0 n).size = n := by rw [ByteArray.size_extract]; omega
  unfold longF
  have e1 := getV_in (t.extract 0 n) 0 2 (by omega) (by omega) (by omega)
  have e2 := getV_in t 0 2 (by omega) (by omega) (by omega)
  have e3 := seg_congr (byteOf (t.extract 0 n)) (byteOf t) 0 0 2 (fun i hi => byteOf_front t n _ (by omega))
  rw [e3, ← e2] at e1
  exact congrArg Int.toNat e1

theorem AllMay.take {l : List RecD} (h : AllMay l) (k : Nat) : AllMay (l.take k) := fun x hx => h x (List.mem_of_mem_take hx)
theorem AllMay.get {l : List RecD} (h : AllMay l) (k : Nat) (hk : k < l.length) : mayB (l.getD k {}) = true ∧ (l.getD k {}).ok := by
  rw [List.getD_eq_getElem?_getD, List.getElem?_eq_getElem hk]
  exact h _ (List.getElem_mem hk)

/-- Where the record k begins. -/
def atF (S : ByteArray → ByteArray) (l : List RecD) (k : Nat) : Nat := (textF S zero32 (l.take k)).size
/-- How long it is. -/
def lenF (l : List RecD) (k : Nat) : Nat := (bytesF (l.getD k {})).size

theorem text_split (S : ByteArray → ByteArray) (l : List RecD) (k : Nat) (hk : k < l.length) : ∃ r, textF S zero32 l = textF S zero32 (l.take k) ++ (entryF S (lastF S zero32 (l.take k)) (l.getD k {}) ++ r) := by
  have e : l = l.take k ++ (l.getD k {} :: l.drop (k + 1)) := by
    have h1 := (List.take_append_drop k l).symm
    rw [List.drop_eq_getElem_cons hk] at h1
    rw [List.getD_eq_getElem?_getD, List.getElem?_eq_getElem hk]
    exact h1
  refine ⟨textF S (S (lastF S zero32 (l.take k) ++ bytesF (l.getD k {}))) (l.drop (k + 1)), ?_⟩
  have h2 := text_append (S := S) (l.take k) (l.getD k {} :: l.drop (k + 1)) zero32
  rw [← e] at h2
  exact h2

section
variable {S : ByteArray → ByteArray} (hS : ∀ x, (S x).size = 32)

theorem at_zero (l : List RecD) : atF S l 0 = 0 := rfl
include hS in
theorem at_succ (l : List RecD) (k : Nat) (hk : k < l.length) : atF S l (k + 1) = atF S l k + 34 + lenF l k := by
  unfold atF lenF
  rw [take_succ_getD l k hk, text_append, ByteArray.size_append]
  show _ + (entryF S _ (l.getD k {}) ++ ByteArray.empty).size = _
  rw [ba_append_nil, entry_size, hS]
  omega
theorem at_end (l : List RecD) : atF S l l.length = (textF S zero32 l).size := by rw [atF, List.take_length]

include hS in
theorem at_fits (l : List RecD) (k : Nat) (hk : k < l.length) : atF S l k + 34 + lenF l k ≤ (textF S zero32 l).size := by
  obtain ⟨r, e⟩ := text_split S l k hk
  rw [e, ByteArray.size_append, ByteArray.size_append, entry_size, hS, atF, lenF]
  omega

theorem at_long (l : List RecD) (hl : AllMay l) (k : Nat) (hk : k < l.length) : byteOf (textF S zero32 l) (atF S l k) * 256 + byteOf (textF S zero32 l) (atF S l k + 1) = lenF l k := by
  obtain ⟨r, e⟩ := text_split S l k hk
  obtain ⟨hm, ho⟩ := hl.get k hk
  have hz := bytesF_size hm ho
  have e0 := byteOf_append (textF S zero32 (l.take k)) (entryF S (lastF S zero32 (l.take k)) (l.getD k {}) ++ r) 0
  have e1 := byteOf_append (textF S zero32 (l.take k)) (entryF S (lastF S zero32 (l.take k)) (l.getD k {}) ++ r) 1
  rw [← e] at e0 e1
  have hg := long_front (bytesF (l.getD k {})).size (by omega) (by omega) (bytesF (l.getD k {}) ++ S (lastF S zero32 (l.take k) ++ bytesF (l.getD k {})) ++ r)
  rw [← ByteArray.append_assoc, ← ByteArray.append_assoc] at hg
  have hsz : 2 ≤ (strOfNums (be 2 (bytesF (l.getD k {})).size) ++ bytesF (l.getD k {}) ++ S (lastF S zero32 (l.take k) ++ bytesF (l.getD k {})) ++ r).size := by
    rw [ByteArray.size_append, ByteArray.size_append, ByteArray.size_append, strOf_size, be_length]; omega
  have hv := getV_in (strOfNums (be 2 (bytesF (l.getD k {})).size) ++ bytesF (l.getD k {}) ++ S (lastF S zero32 (l.take k) ++ bytesF (l.getD k {})) ++ r) 0 2 (by omega) (by omega) (by omega)
  unfold atF lenF
  rw [show (textF S zero32 (l.take k)).size = (textF S zero32 (l.take k)).size + 0 from rfl, e0, show (textF S zero32 (l.take k)).size + 0 + 1 = (textF S zero32 (l.take k)).size + 1 from rfl, e1]
  have hs : valL (seg (byteOf (entryF S (lastF S zero32 (l.take k)) (l.getD k {}) ++ r)) 0 2) = byteOf (entryF S (lastF S zero32 (l.take k)) (l.getD k {}) ++ r) 0 * 256 + byteOf (entryF S (lastF S zero32 (l.take k)) (l.getD k {}) ++ r) 1 := by
    rw [show (2 : Nat) = 1 + 1 from rfl, seg_add, seg_one, seg_one]
    simp [valL]
  rw [← hs]
  exact (hv.symm.trans hg)

/-- A text that is cut between two records. -/
theorem cut_between (l : List RecD) (k : Nat) (hk : k < l.length) : (textF S zero32 l).extract 0 (atF S l k) = textF S zero32 (l.take k) := by
  obtain ⟨r, e⟩ := text_split S l k hk
  rw [e, atF]
  have := extract_front (textF S zero32 (l.take k)) (entryF S (lastF S zero32 (l.take k)) (l.getD k {}) ++ r) 0
  rw [Nat.add_zero] at this
  rw [this]
  have h0 : (entryF S (lastF S zero32 (l.take k)) (l.getD k {}) ++ r).extract 0 0 = ByteArray.empty := by
    apply numsOf_inj
    rw [numsOf_extract]
    rfl
  rw [h0, ba_append_nil]

include hS in
/-- Behind right records something is wrong. -/
theorem parse_wrong (l : List RecD) (hl : AllMay l) (r : ByteArray) (h0 : ¬ r.size = 0) (c : Int) (hc : codeF S (lastF S zero32 l) r = c) (hcn : c ≠ 0) : parseF S (textF S zero32 l ++ r) = ([], c, l.length) := by
  have h1 := parse_text hS l hl (r.size + 1) zero32 r []
  have h2 : parseA S (r.size + 1) (lastF S zero32 l) r ([] ++ l) = ([], c, l.length) := by
    rw [parseA, if_neg h0, hc, if_neg hcn, List.nil_append]
  rw [h2] at h1
  have hz := text_size hS l zero32
  rw [parseF, parse_fuel S _ (l.length + ((textF S zero32 l ++ r).size + 1)) _ _ _ (Nat.le_refl _) (by omega)]
  have h3 := parse_text hS l hl ((textF S zero32 l ++ r).size + 1) zero32 r []
  rw [h3, parse_fuel S _ (r.size + 1) _ _ _ (by rw [ByteArray.size_append]; omega) (by omega), h2]

include hS in
/-- A text that is cut within a record. -/
theorem cut_within (l : List RecD) (hl : AllMay l) (k : Nat) (hk : k < l.length) (m : Nat) (hm : m < 33 + lenF l k) : parseF S ((textF S zero32 l).extract 0 (atF S l k + (1 + m))) = ([], 14, k) := by
  obtain ⟨r, e⟩ := text_split S l k hk
  obtain ⟨hm1, ho⟩ := hl.get k hk
  rw [e, atF, extract_front]
  have hes : (entryF S (lastF S zero32 (l.take k)) (l.getD k {}) ++ r).size = 34 + lenF l k + r.size := by
    rw [ByteArray.size_append, entry_size, hS, lenF]; omega
  have hz : ((entryF S (lastF S zero32 (l.take k)) (l.getD k {}) ++ r).extract 0 (1 + m)).size = 1 + m := by
    rw [ByteArray.size_extract]; omega
  have hlk : (l.take k).length = k := by rw [List.length_take]; omega
  have := parse_wrong hS (l.take k) (hl.take k) ((entryF S (lastF S zero32 (l.take k)) (l.getD k {}) ++ r).extract 0 (1 + m)) (by omega) 14 ?_ (by decide)
  · rw [this, hlk]
  · apply code_short
    rw [hz]
    by_cases h2 : 2 ≤ 1 + m
    · rw [longF_extract _ _ h2 (by omega), entry_long _ hm1 ho]
      unfold lenF at hm
      omega
    · omega

/-- The sum ahead of a record. -/
theorem text_last : ∀ (l : List RecD) (s : ByteArray), l ≠ [] → ∃ a, textF S s l = a ++ lastF S s l
  | [], _, h => absurd rfl h
  | [d], s, _ => ⟨strOfNums (be 2 (bytesF d).size) ++ bytesF d, by
      show entryF S s d ++ ByteArray.empty = _
      rw [ba_append_nil]
      rfl⟩
  | d :: d' :: l, s, _ => by
    obtain ⟨a, e⟩ := text_last (d' :: l) (S (s ++ bytesF d)) (by simp)
    refine ⟨entryF S s d ++ a, ?_⟩
    show entryF S s d ++ textF S _ (d' :: l) = _
    rw [e, ByteArray.append_assoc]
    rfl
include hS in
theorem sum_ahead (l : List RecD) (k : Nat) (hk : k < l.length) (h0 : 0 < k) : 32 ≤ atF S l k ∧ (textF S zero32 l).extract (atF S l k - 32) (atF S l k) = lastF S zero32 (l.take k) := by
  obtain ⟨r, e⟩ := text_split S l k hk
  have hne : l.take k ≠ [] := fun h => by
    have h3 : (l.take k).length = 0 := by rw [h]; rfl
    rw [List.length_take] at h3
    omega
  obtain ⟨a, e2⟩ := text_last (S := S) (l.take k) zero32 hne
  have hz := last_size hS (l.take k) zero32 zero32_size
  have h1 : atF S l k = a.size + 32 := by rw [atF, e2, ByteArray.size_append, hz]
  refine ⟨by omega, ?_⟩
  rw [e, h1]
  rw [e2]
  exact extract_mid a _ _ _ _ (by omega) (by rw [hz]; omega)

/-- One byte otherwise. -/
theorem set_split (l : List RecD) (k : Nat) (p : Nat) {y : Int} (hy : 0 ≤ y ∧ y ≤ 255) {r : ByteArray} (e : textF S zero32 l = textF S zero32 (l.take k) ++ (entryF S (lastF S zero32 (l.take k)) (l.getD k {}) ++ r)) :
    setB (textF S zero32 l) (atF S l k + p) y = textF S zero32 (l.take k) ++ setB (entryF S (lastF S zero32 (l.take k)) (l.getD k {}) ++ r) p y := by
  rw [e, atF]
  exact setB_append _ _ _ hy

include hS in
theorem turn_sum (l : List RecD) (hl : AllMay l) (k : Nat) (hk : k < l.length) (j : Nat) (hj : j < 32) {y : Int} (hy : 0 ≤ y ∧ y ≤ 255) (hne : y ≠ byteOf (textF S zero32 l) (atF S l k + (2 + lenF l k + j))) : parseF S (setB (textF S zero32 l) (atF S l k + (2 + lenF l k + j)) y) = ([], 21, k) := by
  obtain ⟨r, e⟩ := text_split S l k hk
  obtain ⟨hm, ho⟩ := hl.get k hk
  have hlk : (l.take k).length = k := by rw [List.length_take]; omega
  have hes : (entryF S (lastF S zero32 (l.take k)) (l.getD k {}) ++ r).size = 34 + lenF l k + r.size := by
    rw [ByteArray.size_append, entry_size, hS, lenF]; omega
  rw [set_split l k _ hy e]
  have := parse_wrong hS (l.take k) (hl.take k) (setB (entryF S (lastF S zero32 (l.take k)) (l.getD k {}) ++ r) (2 + lenF l k + j) y) (by rw [setB_size]; omega) 21 ?_ (by decide)
  · rw [this, hlk]
  · have h1 := entry_long (S := S) (lastF S zero32 (l.take k)) hm ho r
    have h2 := entry_body (S := S) (lastF S zero32 (l.take k)) hm ho r
    have h3 := entry_sum hS (lastF S zero32 (l.take k)) hm ho r
    refine code_sum _ _ (by rw [h1]; unfold lenF at hes; omega) (by rw [h1, h2, h3]) _ (by rw [h1]; unfold lenF; omega) (by rw [h1]; unfold lenF; omega) hy ?_
    rw [e, atF, byteOf_append] at hne
    exact hne

include hS in
theorem turn_body (l : List RecD) (hl : AllMay l) (k : Nat) (hk : k < l.length) (j : Nat) (hj : j < lenF l k) {y : Int} (hy : 0 ≤ y ∧ y ≤ 255)
    (hcl : S (lastF S zero32 (l.take k) ++ bytesF (l.getD k {})) ≠ S (lastF S zero32 (l.take k) ++ (setB (textF S zero32 l) (atF S l k + (2 + j)) y).extract (atF S l k + 2) (atF S l k + 2 + lenF l k))) : parseF S (setB (textF S zero32 l) (atF S l k + (2 + j)) y) = ([], 21, k) := by
  obtain ⟨r, e⟩ := text_split S l k hk
  obtain ⟨hm, ho⟩ := hl.get k hk
  have hlk : (l.take k).length = k := by rw [List.length_take]; omega
  have hes : (entryF S (lastF S zero32 (l.take k)) (l.getD k {}) ++ r).size = 34 + lenF l k + r.size := by
    rw [ByteArray.size_append, entry_size, hS, lenF]; omega
  rw [set_split l k _ hy e] at hcl ⊢
  have h1 := entry_long (S := S) (lastF S zero32 (l.take k)) hm ho r
  have h3 := entry_sum hS (lastF S zero32 (l.take k)) hm ho r
  have hb : (textF S zero32 (l.take k) ++ setB (entryF S (lastF S zero32 (l.take k)) (l.getD k {}) ++ r) (2 + j) y).extract (atF S l k + 2) (atF S l k + 2 + lenF l k) = bodyF (setB (entryF S (lastF S zero32 (l.take k)) (l.getD k {}) ++ r) (2 + j) y) := by
    rw [bodyF, longF_setB _ _ hy (by omega) (by omega), h1, atF]
    apply numsOf_inj
    rw [numsOf_extract, numsOf_extract, numsOf_append, ← numsOf_length (textF S zero32 (l.take k)), Nat.add_assoc, List.take_length_add_append, List.drop_length_add_append]
    rfl
  rw [hb] at hcl
  have := parse_wrong hS (l.take k) (hl.take k) (setB (entryF S (lastF S zero32 (l.take k)) (l.getD k {}) ++ r) (2 + j) y) (by rw [setB_size]; omega) 21 ?_ (by decide)
  · rw [this, hlk]
  · rw [codeF, longF_setB _ _ hy (by omega) (by omega), h1, setB_size, if_neg (by unfold lenF at hes; omega), if_neg]
    rw [setB_out _ _ hy _ _ (.inl (by unfold lenF at hj; omega)), h3]
    exact Ne.symm hcl

theorem text_cut (l : List RecD) (k : Nat) (hk : k < l.length) (hl : AllMay l) : (textF S zero32 l).extract (atF S l k + 2) (atF S l k + 2 + lenF l k) = bytesF (l.getD k {}) := by
  obtain ⟨r, e⟩ := text_split S l k hk
  obtain ⟨hm, ho⟩ := hl.get k hk
  rw [e, atF]
  have hb := entry_body (S := S) (lastF S zero32 (l.take k)) hm ho r
  rw [bodyF, entry_long (S := S) (lastF S zero32 (l.take k)) hm ho r] at hb
  rw [← hb]
  apply numsOf_inj
  rw [numsOf_extract, numsOf_extract, numsOf_append, ← numsOf_length (textF S zero32 (l.take k)), Nat.add_assoc, List.take_length_add_append, List.drop_length_add_append]
  rfl
end

end Go.Proofs.YtkpmcjfolncmmaaDoor
