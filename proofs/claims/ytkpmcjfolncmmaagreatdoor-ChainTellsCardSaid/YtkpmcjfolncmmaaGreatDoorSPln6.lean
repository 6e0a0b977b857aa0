/- Logs as texts: what was added is read; what is read was added so; what is cut, or turned, is found. Plain. -/
import Derived.Test.YtkpmcjfolncmmaaGreatDoorSByt1
import Derived.Test.YtkpmcjfolncmmaaGreatDoorSPln2
import Derived.Lib.ConvBytes
set_option linter.all false
namespace Go.Proofs.YtkpmcjfolncmmaaGreatDoor
open Go.RowKit
def textF (S : ByteArray → ByteArray) : ByteArray → List RecD → ByteArray
  | _, [] => ⟨#[]⟩
  | s, d :: l => entryF S s d ++ textF S (S (s ++ bytesF d)) l
def lastF (S : ByteArray → ByteArray) : ByteArray → List RecD → ByteArray
  | s, [] => s
  | s, d :: l => lastF S (S (s ++ bytesF d)) l
def longF (t : ByteArray) : Nat := (getV t 0 2).toNat
def bodyF (t : ByteArray) : ByteArray := t.extract 2 (2 + longF t)
def restF (t : ByteArray) : ByteArray := t.extract (34 + longF t) t.size
def codeF (S : ByteArray → ByteArray) (s t : ByteArray) : Int :=
  if t.size < 34 + longF t then 14 else if S (s ++ bodyF t) = t.extract (2 + longF t) (34 + longF t) then (readF (bodyF t)).2 else 21
def parseA (S : ByteArray → ByteArray) : Nat → ByteArray → ByteArray → List RecD → List RecD × Int × Nat
  | 0, _, _, acc => (acc, 0, 0)
  | n + 1, s, t, acc =>
    if t.size = 0 then (acc, 0, 0)
    else if codeF S s t = 0 then parseA S n (S (s ++ bodyF t)) (restF t) (acc ++ [(readF (bodyF t)).1])
    else ([], codeF S s t, acc.length)
def parseF (S : ByteArray → ByteArray) (t : ByteArray) : List RecD × Int × Nat := parseA S t.size zero32 t []
theorem parse_zero (S : ByteArray → ByteArray) (n : Nat) (s t : ByteArray) (acc : List RecD) (h : t.size = 0) : parseA S n s t acc = (acc, 0, 0) := by
  cases n with
  | zero => rfl
  | succ n => rw [parseA, if_pos h]
theorem restF_size (t : ByteArray) (h : 34 + longF t ≤ t.size) : (restF t).size + 34 ≤ t.size := by
  rw [restF, ByteArray.size_extract]
  omega
theorem codeF_le {S : ByteArray → ByteArray} {s t : ByteArray} (h : codeF S s t = 0) : 34 + longF t ≤ t.size := by
  unfold codeF at h
  by_cases c : t.size < 34 + longF t
  · rw [if_pos c] at h; cases h
  · omega
theorem numsOf_extract (t : ByteArray) (a b : Nat) : numsOf (t.extract a b) = ((numsOf t).take b).drop a := by
  unfold numsOf
  rw [ByteArray.data_extract, Array.toList_extract]
  simp [List.extract_eq_take_drop, List.drop_take, List.map_take, List.map_drop]
theorem extract_mid (a x b : ByteArray) (p q : Nat) (hp : a.size = p) (hq : p + x.size = q) : (a ++ x ++ b).extract p q = x := by
  apply numsOf_inj
  rw [numsOf_extract, numsOf_append, numsOf_append]
  have h1 : (numsOf a).length = p := (numsOf_length a).trans hp
  have h2 : (numsOf x).length = x.size := numsOf_length x
  rw [List.take_append_of_le_length (by rw [List.length_append]; omega), List.take_of_length_le (by rw [List.length_append]; omega), ← h1, List.drop_left]
theorem extract_whole (t : ByteArray) : t.extract 0 t.size = t := by
  apply numsOf_inj
  rw [numsOf_extract, List.drop_zero, List.take_of_length_le (by rw [numsOf_length]; exact Nat.le_refl _)]
theorem long_front (v : Int) (h0 : 0 ≤ v) (hv : v < 65536) (b : ByteArray) : getV (strOfNums (be 2 v) ++ b) 0 2 = v := by
  have h2 := getV_in (strOfNums (be 2 v) ++ b) 0 2 (by omega) (by omega) (by rw [ByteArray.size_append, strOf_size, be_length]; omega)
  have e : seg (byteOf (strOfNums (be 2 v) ++ b)) 0 2 = be 2 v := by
    have h3 : numsOf (strOfNums (be 2 v) ++ b) = be 2 v ++ numsOf b := by rw [numsOf_append, numsOf_strOf _ (be_bs 2 v)]
    apply List.ext_getElem?
    intro i
    by_cases hi : i < 2
    · rw [seg_get _ _ _ _ hi, Nat.zero_add, byteOf_nums, h3, List.getD_eq_getElem?_getD, List.getElem?_append_left (by rw [be_length]; exact hi), List.getElem?_eq_getElem (by rw [be_length]; exact hi)]
      rfl
    · rw [List.getElem?_eq_none (by rw [seg_length]; omega), List.getElem?_eq_none (by rw [be_length]; omega)]
  rw [e, valL_be 2 v h0 (by simpa using hv)] at h2
  exact h2
section
variable {S : ByteArray → ByteArray} (hS : ∀ x, (S x).size = 32)
theorem entry_size (s : ByteArray) (d : RecD) : (entryF S s d).size = 2 + (bytesF d).size + (S (s ++ bytesF d)).size := by
  rw [entryF, ByteArray.size_append, ByteArray.size_append, strOf_size, be_length]
theorem entry_long (s : ByteArray) {d : RecD} (hm : mayB d = true) (ho : d.ok) (r : ByteArray) : longF (entryF S s d ++ r) = (bytesF d).size := by
  have hz := bytesF_size hm ho
  rw [longF, entryF, ByteArray.append_assoc, ByteArray.append_assoc, long_front _ (by omega) (by omega), Int.toNat_natCast]
theorem entry_body (s : ByteArray) {d : RecD} (hm : mayB d = true) (ho : d.ok) (r : ByteArray) : bodyF (entryF S s d ++ r) = bytesF d := by
  rw [bodyF, entry_long s hm ho, entryF, ByteArray.append_assoc]
  exact extract_mid _ _ _ 2 _ (by rw [strOf_size, be_length]) rfl
include hS in
theorem entry_sum (s : ByteArray) {d : RecD} (hm : mayB d = true) (ho : d.ok) (r : ByteArray) : (entryF S s d ++ r).extract (2 + (bytesF d).size) (34 + (bytesF d).size) = S (s ++ bytesF d) := by
  rw [entryF]
  exact extract_mid _ _ _ _ _ (by rw [ByteArray.size_append, strOf_size, be_length]) (by rw [hS]; omega)
def AllMay (l : List RecD) : Prop := ∀ d ∈ l, mayB d = true ∧ d.ok
theorem code_short (s t : ByteArray) (h : t.size < 34 + longF t) : codeF S s t = 14 := by rw [codeF, if_pos h]
end
end Go.Proofs.YtkpmcjfolncmmaaGreatDoor
namespace Go.Proofs.YtkpmcjfolncmmaaGreatDoor
open Go.RowKit
structure BytAt (w : World) (b : Nat) (xs : List Int) : Prop where
  cell : ∀ j, j < xs.length → w.cell? ⟨b, j, none⟩ = some (.int .u8 (xs.getD j 0))
  free : ∀ j, j < xs.length → w.frozen? ⟨b, j, none⟩ = false
theorem BytAt.conv (w : World) (s : ByteArray) : BytAt (Lib.bytesWorld w 5 s) w.heap.size (numsOf s) := by
  refine ⟨fun j hj => ?_, fun j hj => ?_⟩
  · rw [numsOf_length] at hj
    rw [Lib.bytesWorld_cell w 5 s j hj, ← byteOf_nums]
    rfl
  · rw [numsOf_length] at hj
    have h := Lib.bytesWorld_at_new w 5 s
    have hs : s.size ≤ (Lib.bytesCells w 5 s).size := by simp [Lib.bytesCells]
    unfold World.frozen?
    simp only [h]
    simp
    omega
theorem BytAt.set {w : World} {b : Nat} {xs : List Int} (h : BytAt w b xs) (j : Nat) (hj : j < xs.length) (y : Int) : BytAt (w.setCell ⟨b, j, none⟩ (.int .u8 y)) b (xs.set j y) := by
  refine ⟨fun i hi => ?_, fun i hi => by rw [World.frozen?_setCell]; exact h.free i (by simpa using hi)⟩
  rw [List.length_set] at hi
  by_cases e : i = j
  · subst e
    rw [World.cell?_setCell_same _ _ _ (h.cell i hj)]
    simp [List.getD_eq_getElem?_getD, List.getElem?_set_self hj]
  · rw [World.cell?_setCell_other _ _ _ _ (by simp <;> omega), h.cell i hi]
    simp [List.getD_eq_getElem?_getD, List.getElem?_set_ne (Ne.symm e)]
theorem BytAt.on {w w' : World} {b : Nat} {xs : List Int} (h : BytAt w b xs) (hb : b < w.heap.size) (hn : Below w.heap.size w w') : BytAt w' b xs :=
  ⟨fun j hj => (hn.cell (p := ⟨b, j, none⟩) hb).trans (h.cell j hj), fun j hj => (hn.frozen (p := ⟨b, j, none⟩) hb).trans (h.free j hj)⟩
theorem BytAt.keeps {K : Nat → Prop} {w w' : World} {b : Nat} {xs : List Int} (h : BytAt w b xs) (hb : b < w.heap.size) (hk : Keeps K w w') (hK : K b) : BytAt w' b xs :=
  ⟨fun j hj => cell_keeps (h.cell j hj) hk hK, fun j hj => (World.frozen?_of_block (w := w) (a := ⟨b, j, none⟩) (hk.block b hb hK)).trans (h.free j hj)⟩
theorem bytes_text (b : Nat) (xs : List Int) (n cap : Nat) (hn : xs.length = n) (w : World) (h : BytAt w b xs) : (convert 26 9 (.slice (some ⟨b, 0, none⟩) n cap)).run Tryz.prog w = .ok (.string (strOfNums xs)) w :=
  run_convert_bytes_arg (P := Tryz.prog) (w := w) 26 5 Tryz.underlying26 Tryz.underlying5 b 0 n cap xs hn (fun i hi => by rw [Nat.zero_add]; exact h.cell i (by omega)) 9 Tryz.underlying9
def setB (t : ByteArray) (p : Nat) (y : Int) : ByteArray := strOfNums ((numsOf t).set p y)
theorem set_bs {l : List Int} (h : Bs l) (p : Nat) {y : Int} (hy : 0 ≤ y ∧ y ≤ 255) : Bs (l.set p y) := fun x hx => by
  rcases List.mem_or_eq_of_mem_set hx with h' | rfl
  · exact h x h'
  · exact hy
theorem numsOf_setB (t : ByteArray) (p : Nat) {y : Int} (hy : 0 ≤ y ∧ y ≤ 255) : numsOf (setB t p y) = (numsOf t).set p y := numsOf_strOf _ (set_bs (Bs.nums t) p hy)
theorem setB_size (t : ByteArray) (p : Nat) (y : Int) : (setB t p y).size = t.size := by rw [setB, strOf_size, List.length_set, numsOf_length]
theorem setB_out (t : ByteArray) (p : Nat) {y : Int} (hy : 0 ≤ y ∧ y ≤ 255) (a b : Nat) (h : p < a ∨ b ≤ p) : (setB t p y).extract a b = t.extract a b := by
  apply numsOf_inj
  rw [numsOf_extract, numsOf_extract, numsOf_setB t p hy]
  rcases h with h | h
  · rw [List.take_set, List.drop_set_of_lt h]
  · rw [List.take_set_of_le h]
theorem setB_in (t : ByteArray) (p : Nat) {y : Int} (hy : 0 ≤ y ∧ y ≤ 255) (a b : Nat) (h1 : a ≤ p) (h2 : p < b) (h3 : p < t.size) (hne : y ≠ byteOf t p) : (setB t p y).extract a b ≠ t.extract a b := by
  intro e
  have h := congrArg numsOf e
  rw [numsOf_extract, numsOf_extract, numsOf_setB t p hy] at h
  have hg := congrArg (fun l => l[p - a]?) h
  simp only [List.getElem?_drop, show a + (p - a) = p by omega, List.getElem?_take_of_lt h2, List.getElem?_set_self (show p < (numsOf t).length by rw [numsOf_length]; exact h3), numsOf_get t p h3, Option.some.injEq] at hg
  exact hne hg
theorem getV_setB (t : ByteArray) (p : Nat) {y : Int} (hy : 0 ≤ y ∧ y ≤ 255) (a n : Nat) (h1 : 1 ≤ n) (h8 : n ≤ 8) (ha : a + n ≤ t.size) (h : p < a ∨ a + n ≤ p) : getV (setB t p y) a n = getV t a n := by
  rw [getV_in _ a n h1 h8 (by rw [setB_size]; exact ha), getV_in t a n h1 h8 ha]
  congr 1
  apply seg_congr
  intro i hi
  rw [byteOf_nums, byteOf_nums, numsOf_setB t p hy, List.getD_eq_getElem?_getD, List.getD_eq_getElem?_getD, List.getElem?_set_ne (by omega)]
theorem longF_setB (t : ByteArray) (p : Nat) {y : Int} (hy : 0 ≤ y ∧ y ≤ 255) (h : 2 ≤ p) (hs : 2 ≤ t.size) : longF (setB t p y) = longF t := by
  have := getV_setB t p hy 0 2 (by omega) (by omega) (by omega) (by omega)
  unfold longF
  exact congrArg Int.toNat this
theorem code_sum {S : ByteArray → ByteArray} (s t : ByteArray) (hle : 34 + longF t ≤ t.size) (hs : S (s ++ bodyF t) = t.extract (2 + longF t) (34 + longF t)) (p : Nat) (h1 : 2 + longF t ≤ p) (h2 : p < 34 + longF t) {y : Int} (hy : 0 ≤ y ∧ y ≤ 255) (hne : y ≠ byteOf t p) : codeF S s (setB t p y) = 21 := by
  have hl := longF_setB t p hy (by omega) (by omega)
  have hbd : bodyF (setB t p y) = bodyF t := by rw [bodyF, bodyF, hl]; exact setB_out t p hy _ _ (.inr h1)
  rw [codeF, hl, hbd, if_neg (by rw [setB_size]; omega), if_neg]
  rw [hs]
  exact Ne.symm (setB_in t p hy _ _ h1 h2 (by omega) hne)
end Go.Proofs.YtkpmcjfolncmmaaGreatDoor
