/- Logs as texts: what was added is read; what is read was added so; what is cut, or turned, is found. Plain. -/
import Derived.Test.YtkpmcjfolncmmaaGreatDoorMByt1
import Derived.Test.YtkpmcjfolncmmaaGreatDoorMPln2
import Derived.Lib.ConvBytes
set_option linter.all false
namespace Go.Proofs.YtkpmcjfolncmmaaGreatDoor
open Go.RowKit

/-- The text of a log of records, behind a sum. -/
def textF (S : ByteArray → ByteArray) : ByteArray → List RecD → ByteArray
  | _, [] => ⟨#[]⟩
  | s, d :: l => entryF S s d ++ textF S (S (s ++ bytesF d)) l
/-- The last sum. -/
def lastF (S : ByteArray → ByteArray) : ByteArray → List RecD → ByteArray
  | s, [] => s
  | s, d :: l => lastF S (S (s ++ bytesF d)) l

/-- How long the first entry says its record is. -/
def longF (t : ByteArray) : Nat := (getV t 0 2).toNat
def bodyF (t : ByteArray) : ByteArray := t.extract 2 (2 + longF t)
def restF (t : ByteArray) : ByteArray := t.extract (34 + longF t) t.size
/-- What is wrong with the first entry. -/
def codeF (S : ByteArray → ByteArray) (s t : ByteArray) : Int :=
  if t.size < 34 + longF t then 14 else if S (s ++ bodyF t) = t.extract (2 + longF t) (34 + longF t) then (readF (bodyF t)).2 else 21

/-- What Parse answers, from somewhere on: the records, the error's number, and where. -/
def parseA (S : ByteArray → ByteArray) : Nat → ByteArray → ByteArray → List RecD → List RecD × Int × Nat
  | 0, _, _, acc => (acc, 0, 0)
  | n + 1, s, t, acc =>
    if t.size = 0 then (acc, 0, 0)
    else if codeF S s t = 0 then parseA S n (S (s ++ bodyF t)) (restF t) (acc ++ [(readF (bodyF t)).1])
    else ([], codeF S s t, acc.length)
def parseF (S : ByteArray → ByteArray) (t : ByteArray) : List RecD × Int × Nat := parseA S t.size zero32 t []

theorem parse_zero (S : ByteArray → ByteArray) (n : Nat) (s t : ByteArray) (acc : List RecD) (h : t.size = 0) : parseA S n s t acc = (acc, 0, 0) := by
  cases n with
  | zero => rfl
  | succ n => rw [parseA, if_pos h]
theorem restF_size (t : ByteArray) (h : 34 + longF t ≤ t.size) : (restF t).size + 34 ≤ t.size := by
  rw [restF, ByteArray.size_extract]
  omega
theorem codeF_le {S : ByteArray → ByteArray} {s t : ByteArray} (h : codeF S s t = 0) : 34 + longF t ≤ t.size := by
  unfold codeF at h
  by_cases c : t.size < 34 + longF t
  · rw [if_pos c] at h; cases h
  · omega
/-- Enough is enough. -/
theorem parse_fuel (S : ByteArray → ByteArray) : ∀ (n m : Nat) (s t : ByteArray) (acc : List RecD), t.size ≤ n → t.size ≤ m → parseA S n s t acc = parseA S m s t acc
  | 0, m, s, t, acc, h, _ => by rw [parse_zero S 0 s t acc (by omega), parse_zero S m s t acc (by omega)]
  | n + 1, 0, s, t, acc, _, h => by rw [parse_zero S 0 s t acc (by omega), parse_zero S (n + 1) s t acc (by omega)]
  | n + 1, m + 1, s, t, acc, hn, hm => by
    rw [parseA, parseA]
    by_cases h0 : t.size = 0
    · rw [if_pos h0, if_pos h0]
    · rw [if_neg h0, if_neg h0]
      by_cases hc : codeF S s t = 0
      · rw [if_pos hc, if_pos hc]
        have := restF_size t (codeF_le hc)
        exact parse_fuel S n m _ _ _ (by omega) (by omega)
      · rw [if_neg hc, if_neg hc]

theorem numsOf_extract (t : ByteArray) (a b : Nat) : numsOf (t.extract a b) = ((numsOf t).take b).drop a := by
  unfold numsOf
  rw [ByteArray.data_extract, Array.toList_extract]
  simp [List.extract_eq_take_drop, List.drop_take, List.map_take, List.map_drop]
theorem extract_mid (a x b : ByteArray) (p q : Nat) (hp : a.size = p) (hq : p + x.size = q) : (a ++ x ++ b).extract p q = x := by
  apply numsOf_inj
  rw [numsOf_extract, numsOf_append, numsOf_append]
  have h1 : (numsOf a).length = p := (numsOf_length a).trans hp
  have h2 : (numsOf x).length = x.size := numsOf_length x
  rw [List.take_append_of_le_length (by rw [List.length_append]; omega), List.take_of_length_le (by rw [List.length_append]; omega), ← h1, List.drop_left]
theorem extract_end (a b : ByteArray) (p q : Nat) (hp : a.size = p) (hq : (a ++ b).size ≤ q) : (a ++ b).extract p q = b := by
  apply numsOf_inj
  have h1 : (numsOf a).length = p := (numsOf_length a).trans hp
  rw [numsOf_extract, List.take_of_length_le (by rw [numsOf_length]; exact hq), numsOf_append, ← h1, List.drop_left]
theorem extract_join (t : ByteArray) (a b c : Nat) (h1 : a ≤ b) (h2 : b ≤ c) : t.extract a b ++ t.extract b c = t.extract a c := by
  apply numsOf_inj
  rw [numsOf_append, numsOf_extract, numsOf_extract, numsOf_extract]
  have e : ((numsOf t).take c).drop a = (((numsOf t).take c).drop a).take (b - a) ++ (((numsOf t).take c).drop a).drop (b - a) := (List.take_append_drop _ _).symm
  rw [e, List.drop_drop, List.take_drop, List.take_take]
  rw [show a + (b - a) = b by omega, show min b c = b by omega]
theorem extract_whole (t : ByteArray) : t.extract 0 t.size = t := by
  apply numsOf_inj
  rw [numsOf_extract, List.drop_zero, List.take_of_length_le (by rw [numsOf_length]; exact Nat.le_refl _)]

/-- The length ahead of a record. -/
theorem long_front (v : Int) (h0 : 0 ≤ v) (hv : v < 65536) (b : ByteArray) : getV (strOfNums (be 2 v) ++ b) 0 2 = v := by
  have h2 := getV_in (strOfNums (be 2 v) ++ b) 0 2 (by omega) (by omega) (by rw [ByteArray.size_append, strOf_size, be_length]; omega)
  have e : seg (byteOf (strOfNums (be 2 v) ++ b)) 0 2 = be 2 v := by
    have h3 : numsOf (strOfNums (be 2 v) ++ b) = be 2 v ++ numsOf b := by rw [numsOf_append, numsOf_strOf _ (be_bs 2 v)]
    apply List.ext_getElem?
    intro i
    by_cases hi : i < 2
    · rw [seg_get _ _ _ _ hi, Nat.zero_add, byteOf_nums, h3, List.getD_eq_getElem?_getD, List.getElem?_append_left (by rw [be_length]; exact hi), List.getElem?_eq_getElem (by rw [be_length]; exact hi)]
      rfl
    · rw [List.getElem?_eq_none (by rw [seg_length]; omega), List.getElem?_eq_none (by rw [be_length]; omega)]
  rw [e, valL_be 2 v h0 (by simpa using hv)] at h2
  exact h2

section
variable {S : ByteArray → ByteArray} (hS : ∀ x, (S x).size = 32)

theorem entry_size (s : ByteArray) (d : RecD) : (entryF S s d).size = 2 + (bytesF d).size + (S (s ++ bytesF d)).size := by
  rw [entryF, ByteArray.size_append, ByteArray.size_append, strOf_size, be_length]
theorem entry_long (s : ByteArray) {d : RecD} (hm : mayB d = true) (ho : d.ok) (r : ByteArray) : longF (entryF S s d ++ r) = (bytesF d).size := by
  have hz := bytesF_size hm ho
  rw [longF, entryF, ByteArray.append_assoc, ByteArray.append_assoc, long_front _ (by omega) (by omega), Int.toNat_natCast]
theorem entry_body (s : ByteArray) {d : RecD} (hm : mayB d = true) (ho : d.ok) (r : ByteArray) : bodyF (entryF S s d ++ r) = bytesF d := by
  rw [bodyF, entry_long s hm ho, entryF, ByteArray.append_assoc]
  exact extract_mid _ _ _ 2 _ (by rw [strOf_size, be_length]) rfl
include hS in
theorem entry_sum (s : ByteArray) {d : RecD} (hm : mayB d = true) (ho : d.ok) (r : ByteArray) : (entryF S s d ++ r).extract (2 + (bytesF d).size) (34 + (bytesF d).size) = S (s ++ bytesF d) := by
  rw [entryF]
  exact extract_mid _ _ _ _ _ (by rw [ByteArray.size_append, strOf_size, be_length]) (by rw [hS]; omega)
include hS in
theorem entry_rest (s : ByteArray) {d : RecD} (hm : mayB d = true) (ho : d.ok) (r : ByteArray) : restF (entryF S s d ++ r) = r := by
  rw [restF, entry_long s hm ho]
  exact extract_end _ _ _ _ (by rw [entry_size, hS]; omega) (Nat.le_refl _)
include hS in
theorem entry_code (s : ByteArray) {d : RecD} (hm : mayB d = true) (ho : d.ok) (r : ByteArray) : codeF S s (entryF S s d ++ r) = 0 := by
  rw [codeF, entry_long s hm ho, if_neg (by rw [ByteArray.size_append, entry_size, hS]; omega), entry_body s hm ho, entry_sum hS s hm ho, if_pos rfl, read_bytes hm ho]

/-- All of a row may be. -/
def AllMay (l : List RecD) : Prop := ∀ d ∈ l, mayB d = true ∧ d.ok

include hS in
theorem parse_text : ∀ (l : List RecD), AllMay l → ∀ (n : Nat) (s r : ByteArray) (acc : List RecD), parseA S (l.length + n) s (textF S s l ++ r) acc = parseA S n (lastF S s l) r (acc ++ l)
  | [], _, n, s, r, acc => by
    show parseA S (0 + n) s (ByteArray.empty ++ r) acc = _
    rw [ba_nil_append, Nat.zero_add, List.append_nil]
    rfl
  | d :: l, hl, n, s, r, acc => by
    obtain ⟨hm, ho⟩ := hl d (by simp)
    show parseA S (l.length + 1 + n) s (entryF S s d ++ textF S (S (s ++ bytesF d)) l ++ r) acc = _
    rw [show l.length + 1 + n = l.length + n + 1 by omega, parseA, ByteArray.append_assoc]
    rw [if_neg (by rw [ByteArray.size_append, entry_size, hS]; omega), if_pos (entry_code hS s hm ho _), entry_body s hm ho, entry_rest hS s hm ho, read_bytes hm ho]
    rw [parse_text l (fun x hx => hl x (by simp [hx])), List.append_assoc]
    rfl
include hS in
theorem text_size : ∀ (l : List RecD) (s : ByteArray), l.length ≤ (textF S s l).size
  | [], _ => by simp
  | d :: l, s => by
    have := text_size l (S (s ++ bytesF d))
    show l.length + 1 ≤ (entryF S s d ++ textF S (S (s ++ bytesF d)) l).size
    rw [ByteArray.size_append, entry_size, hS]
    omega
include hS in
/-- What was added is read. -/
theorem parse_log (l : List RecD) (hl : AllMay l) : parseF S (textF S zero32 l) = (l, 0, 0) := by
  have h1 := parse_text hS l hl (textF S zero32 l).size zero32 ⟨#[]⟩ []
  have e : textF S zero32 l ++ ⟨#[]⟩ = textF S zero32 l := ba_append_nil _
  rw [e, parse_zero S _ _ ⟨#[]⟩ _ rfl] at h1
  rw [parseF, parse_fuel S _ (l.length + (textF S zero32 l).size) _ _ _ (Nat.le_refl _) (by omega), h1]
  rfl

theorem text_append : ∀ (a b : List RecD) (s : ByteArray), textF S s (a ++ b) = textF S s a ++ textF S (lastF S s a) b
  | [], b, s => by
    show textF S s b = ByteArray.empty ++ _
    rw [ba_nil_append]; rfl
  | d :: a, b, s => by
    show entryF S s d ++ textF S _ (a ++ b) = entryF S s d ++ textF S _ a ++ textF S _ b
    rw [text_append a b, ByteArray.append_assoc]
    rfl
theorem last_append : ∀ (a b : List RecD) (s : ByteArray), lastF S s (a ++ b) = lastF S (lastF S s a) b
  | [], _, _ => rfl
  | d :: a, b, s => last_append a b (S (s ++ bytesF d))
include hS in
theorem last_size : ∀ (l : List RecD) (s : ByteArray), s.size = 32 → (lastF S s l).size = 32
  | [], _, h => h
  | d :: l, s, _ => last_size l _ (hS _)

/-- What is read, if nothing is wrong, was added so. -/
theorem text_parse : ∀ (n : Nat) (s t : ByteArray) (acc : List RecD) (l : List RecD) (k : Nat), t.size ≤ n → parseA S n s t acc = (l, 0, k) → ∃ e, l = acc ++ e ∧ AllMay e ∧ t = textF S s e
  | 0, s, t, acc, l, k, hn, h => by
    have h0 : t.size = 0 := by omega
    rw [parse_zero S 0 s t acc h0] at h
    refine ⟨[], ?_, fun x hx => by simp at hx, ?_⟩
    · rw [List.append_nil]; exact (congrArg Prod.fst h).symm
    · apply numsOf_inj
      rw [List.eq_nil_of_length_eq_zero ((numsOf_length t).trans h0)]
      rfl
  | n + 1, s, t, acc, l, k, hn, h => by
    by_cases h0 : t.size = 0
    · rw [parse_zero S _ s t acc h0] at h
      refine ⟨[], ?_, fun x hx => by simp at hx, ?_⟩
      · rw [List.append_nil]; exact (congrArg Prod.fst h).symm
      · apply numsOf_inj
        rw [List.eq_nil_of_length_eq_zero ((numsOf_length t).trans h0)]
        rfl
    · rw [parseA, if_neg h0] at h
      by_cases hc : codeF S s t = 0
      · rw [if_pos hc] at h
        have hle := codeF_le hc
        have hrs := restF_size t hle
        obtain ⟨e, he1, he2, he3⟩ := text_parse n _ _ _ l k (by omega) h
        have hc2 := hc
        unfold codeF at hc2
        rw [if_neg (by omega)] at hc2
        by_cases hs : S (s ++ bodyF t) = t.extract (2 + longF t) (34 + longF t)
        · rw [if_pos hs] at hc2
          have hr : readF (bodyF t) = ((readF (bodyF t)).1, 0) := Prod.ext rfl hc2
          obtain ⟨hm, ho, hb⟩ := bytes_read hr
          refine ⟨(readF (bodyF t)).1 :: e, by rw [he1, List.append_assoc]; rfl, fun x hx => ?_, ?_⟩
          · rcases List.mem_cons.1 hx with rfl | hx
            · exact ⟨hm, ho⟩
            · exact he2 x hx
          · show t = entryF S s (readF (bodyF t)).1 ++ textF S (S (s ++ bytesF (readF (bodyF t)).1)) e
            have hbs : (bodyF t).size = longF t := by rw [bodyF, ByteArray.size_extract]; omega
            have h2 : strOfNums (be 2 (longF t)) = t.extract 0 2 := by
              apply numsOf_inj
              rw [numsOf_strOf _ (be_bs 2 _), numsOf_extract, List.drop_zero]
              have hg : ((longF t : Nat) : Int) = getV t 0 2 := by rw [longF, Int.toNat_of_nonneg (getV_bound t 0 2 (by omega)).1]
              have := be_getV t 0 2 (by omega) (by omega) (by omega)
              rw [hg]
              refine Eq.trans this ?_
              rw [numsOf_seg, show t.size = 2 + (t.size - 2) by omega, seg_add, List.take_left' (seg_length _ _ _)]
            rw [entryF, hb, ← he3, hbs, h2, hs]
            rw [bodyF, extract_join t 0 2 _ (by omega) (by omega), extract_join t 0 _ _ (by omega) (by omega), restF, extract_join t 0 _ _ (by omega) hle, extract_whole]
        · rw [if_neg hs] at hc2
          cases hc2
      · rw [if_neg hc] at h
        exact absurd (congrArg (fun x => x.2.1) h) hc

theorem log_parse {t : ByteArray} {l : List RecD} {k : Nat} (h : parseF S t = (l, 0, k)) : AllMay l ∧ t = textF S zero32 l := by
  obtain ⟨e, he1, he2, he3⟩ := text_parse t.size zero32 t [] l k (Nat.le_refl _) h
  rw [List.nil_append] at he1
  subst he1
  exact ⟨he2, he3⟩

/-- An entry that is cut is found short. -/
theorem code_short (s t : ByteArray) (h : t.size < 34 + longF t) : codeF S s t = 14 := by rw [codeF, if_pos h]
end

end Go.Proofs.YtkpmcjfolncmmaaGreatDoor

/- A text as bytes in memory, one of them turned; what that leaves of a text. -/
namespace Go.Proofs.YtkpmcjfolncmmaaGreatDoor
open Go.RowKit

/-- Bytes that may be written, at the head of block b. -/
structure BytAt (w : World) (b : Nat) (xs : List Int) : Prop where
  cell : ∀ j, j < xs.length → w.cell? ⟨b, j, none⟩ = some (.int .u8 (xs.getD j 0))
  free : ∀ j, j < xs.length → w.frozen? ⟨b, j, none⟩ = false
theorem BytAt.conv (w : World) (s : ByteArray) : BytAt (Lib.bytesWorld w 5 s) w.heap.size (numsOf s) := by
  refine ⟨fun j hj => ?_, fun j hj => ?_⟩
  · rw [numsOf_length] at hj
    rw [Lib.bytesWorld_cell w 5 s j hj, ← byteOf_nums]
    rfl
  · rw [numsOf_length] at hj
    have h := Lib.bytesWorld_at_new w 5 s
    have hs : s.size ≤ (Lib.bytesCells w 5 s).size := by simp [Lib.bytesCells]
    unfold World.frozen?
    simp only [h]
    simp
    omega
theorem BytAt.set {w : World} {b : Nat} {xs : List Int} (h : BytAt w b xs) (j : Nat) (hj : j < xs.length) (y : Int) : BytAt (w.setCell ⟨b, j, none⟩ (.int .u8 y)) b (xs.set j y) := by
  refine ⟨fun i hi => ?_, fun i hi => by rw [World.frozen?_setCell]; exact h.free i (by simpa using hi)⟩
  rw [List.length_set] at hi
  by_cases e : i = j
  · subst e
    rw [World.cell?_setCell_same _ _ _ (h.cell i hj)]
    simp [List.getD_eq_getElem?_getD, List.getElem?_set_self hj]
  · rw [World.cell?_setCell_other _ _ _ _ (by simp <;> omega), h.cell i hi]
    simp [List.getD_eq_getElem?_getD, List.getElem?_set_ne (Ne.symm e)]
theorem BytAt.on {w w' : World} {b : Nat} {xs : List Int} (h : BytAt w b xs) (hb : b < w.heap.size) (hn : Below w.heap.size w w') : BytAt w' b xs :=
  ⟨fun j hj => (hn.cell (p := ⟨b, j, none⟩) hb).trans (h.cell j hj), fun j hj => (hn.frozen (p := ⟨b, j, none⟩) hb).trans (h.free j hj)⟩
theorem BytAt.keeps {K : Nat → Prop} {w w' : World} {b : Nat} {xs : List Int} (h : BytAt w b xs) (hb : b < w.heap.size) (hk : Keeps K w w') (hK : K b) : BytAt w' b xs :=
  ⟨fun j hj => cell_keeps (h.cell j hj) hk hK, fun j hj => (World.frozen?_of_block (w := w) (a := ⟨b, j, none⟩) (hk.block b hb hK)).trans (h.free j hj)⟩
theorem bytes_text (b : Nat) (xs : List Int) (n cap : Nat) (hn : xs.length = n) (w : World) (h : BytAt w b xs) : (convert 26 9 (.slice (some ⟨b, 0, none⟩) n cap)).run Tryz.prog w = .ok (.string (strOfNums xs)) w :=
  run_convert_bytes_arg (P := Tryz.prog) (w := w) 26 5 Tryz.underlying26 Tryz.underlying5 b 0 n cap xs hn (fun i hi => by rw [Nat.zero_add]; exact h.cell i (by omega)) 9 Tryz.underlying9

/-- A text with one byte otherwise. -/
def setB (t : ByteArray) (p : Nat) (y : Int) : ByteArray := strOfNums ((numsOf t).set p y)
theorem set_bs {l : List Int} (h : Bs l) (p : Nat) {y : Int} (hy : 0 ≤ y ∧ y ≤ 255) : Bs (l.set p y) := fun x hx => by
  rcases List.mem_or_eq_of_mem_set hx with h' | rfl
  · exact h x h'
  · exact hy
theorem numsOf_setB (t : ByteArray) (p : Nat) {y : Int} (hy : 0 ≤ y ∧ y ≤ 255) : numsOf (setB t p y) = (numsOf t).set p y := numsOf_strOf _ (set_bs (Bs.nums t) p hy)
theorem setB_size (t : ByteArray) (p : Nat) (y : Int) : (setB t p y).size = t.size := by rw [setB, strOf_size, List.length_set, numsOf_length]
theorem setB_out (t : ByteArray) (p : Nat) {y : Int} (hy : 0 ≤ y ∧ y ≤ 255) (a b : Nat) (h : p < a ∨ b ≤ p) : (setB t p y).extract a b = t.extract a b := by
  apply numsOf_inj
  rw [numsOf_extract, numsOf_extract, numsOf_setB t p hy]
  rcases h with h | h
  · rw [List.take_set, List.drop_set_of_lt h]
  · rw [List.take_set_of_le h]
theorem setB_in (t : ByteArray) (p : Nat) {y : Int} (hy : 0 ≤ y ∧ y ≤ 255) (a b : Nat) (h1 : a ≤ p) (h2 : p < b) (h3 : p < t.size) (hne : y ≠ byteOf t p) : (setB t p y).extract a b ≠ t.extract a b := by
  intro e
  have h := congrArg numsOf e
  rw [numsOf_extract, numsOf_extract, numsOf_setB t p hy] at h
  have hg := congrArg (fun l => l[p - a]?) h
  simp only [List.getElem?_drop, show a + (p - a) = p by omega, List.getElem?_take_of_lt h2, List.getElem?_set_self (show p < (numsOf t).length by rw [numsOf_length]; exact h3), numsOf_get t p h3, Option.some.injEq] at hg
  exact hne hg
theorem getV_setB (t : ByteArray) (p : Nat) {y : Int} (hy : 0 ≤ y ∧ y ≤ 255) (a n : Nat) (h1 : 1 ≤ n) (h8 : n ≤ 8) (ha : a + n ≤ t.size) (h : p < a ∨ a + n ≤ p) : getV (setB t p y) a n = getV t a n := by
  rw [getV_in _ a n h1 h8 (by rw [setB_size]; exact ha), getV_in t a n h1 h8 ha]
  congr 1
  apply seg_congr
  intro i hi
  rw [byteOf_nums, byteOf_nums, numsOf_setB t p hy, List.getD_eq_getElem?_getD, List.getD_eq_getElem?_getD, List.getElem?_set_ne (by omega)]
theorem longF_setB (t : ByteArray) (p : Nat) {y : Int} (hy : 0 ≤ y ∧ y ≤ 255) (h : 2 ≤ p) (hs : 2 ≤ t.size) : longF (setB t p y) = longF t := by
  have := getV_setB t p hy 0 2 (by omega) (by omega) (by omega) (by omega)
  unfold longF
  exact congrArg Int.toNat this

/-- A sum's byte that is another one. -/
theorem code_sum {S : ByteArray → ByteArray} (s t : ByteArray) (hle : 34 + longF t ≤ t.size) (hs : S (s ++ bodyF t) = t.extract (2 + longF t) (34 + longF t)) (p : Nat) (h1 : 2 + longF t ≤ p) (h2 : p < 34 + longF t) {y : Int} (hy : 0 ≤ y ∧ y ≤ 255) (hne : y ≠ byteOf t p) : codeF S s (setB t p y) = 21 := by
  have hl := longF_setB t p hy (by omega) (by omega)
  have hbd : bodyF (setB t p y) = bodyF t := by rw [bodyF, bodyF, hl]; exact setB_out t p hy _ _ (.inr h1)
  rw [codeF, hl, hbd, if_neg (by rw [setB_size]; omega), if_neg]
  rw [hs]
  exact Ne.symm (setB_in t p hy _ _ h1 h2 (by omega) hne)

end Go.Proofs.YtkpmcjfolncmmaaGreatDoor
