/- What chain.Bytes' walk wants: the state behind each of its steps. -/
import Derived.Test.YtkpmcjfolncmmaaGreatDoorSMayZ
import Derived.Test.YtkpmcjfolncmmaaGreatDoorSPln2
import Derived.Laws.IdiomCopy
import Derived.Defers
import Derived.Recover
set_option linter.all false
namespace Go.Proofs.YtkpmcjfolncmmaaGreatDoor
open Go.RowKit
structure BS (L b g : Nat) (rv : RecV) (l : List Int) (w wx : World) : Prop where
  record : RecIn wx L rv
  wr : WAt b (strOfNums l) wx
  box : wx.cell? ⟨g, 0, none⟩ = some (.pointer (some ⟨b, 0, none⟩))
  new : Below w.heap.size w wx
  hL : L < b
  hg : b < g
  hw : w.heap.size ≤ L
theorem BS.bound {L b g : Nat} {rv : RecV} {l : List Int} {w wx : World} (h : BS L b g rv l w wx) : b < wx.heap.size := cell_lt h.wr.cell
theorem BS.step {L b g : Nat} {rv : RecV} {l l' : List Int} {w wx w' : World} {t : ByteArray} (h : BS L b g rv l w wx) (hk : Keeps (· ≠ b) wx w') (ha : WAt b t w') (ht : t = strOfNums l') : BS L b g rv l' w w' := by
  have h1 := h.hL
  have h2 := h.hg
  have h3 := h.hw
  have h4 := h.bound
  exact ⟨h.record.keeps hk (by omega), by rw [← ht]; exact ha, cell_keeps h.box hk (by omega), new_of_keeps h.new hk (by omega), h1, h2, h3⟩
theorem BS.on {L b g : Nat} {rv : RecV} {l : List Int} {w wx w' : World} (h : BS L b g rv l w wx) (hb : Below wx.heap.size wx w') : BS L b g rv l w w' :=
  ⟨h.record.new hb, h.wr.on hb, (hb.cell (cell_lt h.box)).trans h.box, h.new.trans (hb.mono h.new.size), h.hL, h.hg, h.hw⟩
theorem BS.rowI {L b g : Nat} {rv : RecV} {l : List Int} {w wx : World} (h : BS L b g rv l w wx) {v : Value} {xs : List Int} (hr : RowI w v xs) :
    ∃ a cap, v = .slice a xs.length cap ∧ (0 < xs.length → ∃ lb lo, a = some ⟨lb, lo, none⟩ ∧ lb ≠ b ∧ ∀ j, j < xs.length → wx.cell? ⟨lb, lo + j, none⟩ = some (.int .i64 (xs.getD j 0))) := by
  obtain ⟨a, cap, e, _, hx⟩ := hr
  refine ⟨a, cap, e, fun h0 => ?_⟩
  obtain ⟨lb, lo, ea, hlb, hj⟩ := hx h0
  have h1 := h.hL
  have h3 := h.hw
  exact ⟨lb, lo, ea, by omega, fun j hjl => (h.new.cell (p := ⟨lb, lo + j, none⟩) hlb).trans (hj j hjl)⟩
theorem BS.rowL {L b g : Nat} {rv : RecV} {l : List Int} {w wx : World} (h : BS L b g rv l w wx) {v : Value} {xs : List (Int × Int)} (hr : RowL w v xs) :
    ∃ a cap, v = .slice a xs.length cap ∧ (0 < xs.length → ∃ lb lo, a = some ⟨lb, lo, none⟩ ∧ lb ≠ b ∧ ∀ j, j < xs.length → wx.cell? ⟨lb, lo + j * 2, none⟩ = some (.int .i64 (xs.getD j (0, 0)).1) ∧ wx.cell? ⟨lb, lo + j * 2 + 1, none⟩ = some (.int .i64 (xs.getD j (0, 0)).2)) := by
  obtain ⟨a, cap, e, _, hx⟩ := hr
  refine ⟨a, cap, e, fun h0 => ?_⟩
  obtain ⟨lb, lo, ea, hlb, hj⟩ := hx h0
  have h1 := h.hL
  have h3 := h.hw
  exact ⟨lb, lo, ea, by omega, fun j hjl => ⟨(h.new.cell (p := ⟨lb, lo + j * 2, none⟩) hlb).trans (hj j hjl).1, (h.new.cell (p := ⟨lb, lo + j * 2 + 1, none⟩) hlb).trans (hj j hjl).2⟩⟩
def BSPost (L b g : Nat) (rv : RecV) (l : List Int) (w : World) (e : Ending) (w' : World) : Prop := e = .returned (.tuple #[]) ∧ BS L b g rv l w w'
theorem bs_small {L b g : Nat} {rv : RecV} {l : List Int} {w wx : World} (h : BS L b g rv l w wx) (xs : List Int) (hb : Bs xs) (hl : l.length + 8 * xs.length ≤ 1099511627776) (arr : Array Value) (ha : arr = (xs.map (Value.int .i64)).toArray) (ty : TypeId) (n : Nat) (hn : xs.length = n) :
    Calls Tryz.prog 64 #[.pointer (some ⟨b, 0, none⟩), .slice (some ⟨wx.heap.size, 0, none⟩) n n] (wx.alloc (.cells arr ty)) (BSPost L b g rv (l ++ xs) w) := by
  subst hn ha
  have h1 := h.on (new_alloc wx (.cells (xs.map (Value.int .i64)).toArray ty))
  refine (small_any b (strOfNums l) xs (by rw [strOf_size]; exact hl) (some ⟨wx.heap.size, 0, none⟩) xs.length _ h1.wr (fun _ => ⟨_, _, rfl, Nat.ne_of_gt h.bound, fun j hj => ?_⟩)).mono ?_
  · rw [Nat.zero_add, cell_new, List.getElem?_toArray, List.getElem?_map, List.getElem?_eq_getElem hj, List.getD_eq_getElem?_getD, List.getElem?_eq_getElem hj]
    rfl
  · rintro e w1 ⟨rfl, hk, hw⟩
    exact ⟨rfl, h1.step hk hw (by rw [smallF_fits xs hb, strOf_append])⟩
theorem bs_num {L b g : Nat} {rv : RecV} {l : List Int} {w wx : World} (h : BS L b g rv l w wx) (v : Int) (hv : 0 ≤ v ∧ v ≤ 18446744073709551615) (hl : l.length ≤ 1099511627776) :
    Calls Tryz.prog 67 #[.pointer (some ⟨b, 0, none⟩), .int .u64 v, .int .i64 8] wx (BSPost L b g rv (l ++ be 8 v) w) := by
  refine (num_any b (strOfNums l) (by rw [strOf_size]; exact hl) v 8 hv wx h.wr).mono ?_
  rintro e w1 ⟨rfl, hk, hw⟩
  refine ⟨rfl, h.step hk hw ?_⟩
  have := putF_fits (strOfNums l) v 8 (by omega) (by omega) hv.1 (eight v hv)
  rw [show ((8 : Nat) : Int) = 8 from rfl] at this
  rw [this, strOf_append]
theorem rowI_fits (t : ByteArray) (xs : List Int) (hn : xs.length ≤ 255) (hb : Bs xs) : rowI t xs.length xs = t ++ strOfNums (rowIL xs) := by
  have gen : ∀ (xs : List Int), Bs xs → ∀ t : ByteArray, xs.foldl (fun t x => smallF t [x]) t = t ++ strOfNums xs := by
    intro xs
    induction xs with
    | nil => intro _ t; rw [strOf_nil, ba_append_nil]; rfl
    | cons x xs ih =>
      intro hb t
      rw [List.foldl_cons, ih (fun y hy => hb y (by simp [hy])), smallF_fits [x] (fun y hy => hb y (by simp at hy; simp [hy])), ByteArray.append_assoc, ← strOf_append]
      rfl
  rw [rowI, smallF_fits [(xs.length : Int)] (Bs.cons (by omega) Bs.nil), gen xs hb, ByteArray.append_assoc, ← strOf_append]
  rfl
theorem lotF_fits (t : ByteArray) (x y : Int) (hx : 0 ≤ x ∧ x ≤ 255) (hy : 0 ≤ y ∧ y < 4294967296) : lotF t x y = t ++ strOfNums (x :: be 4 y) := by
  have := putF_fits (smallF t [x]) (y % 18446744073709551616) 4 (by omega) (by omega) (by omega) (by simp; omega)
  rw [show ((4 : Nat) : Int) = 4 from rfl] at this
  rw [lotF, this, smallF_fits [x] (Bs.cons hx Bs.nil), ByteArray.append_assoc, ← strOf_append, show y % 18446744073709551616 = y by omega]
  rfl
theorem rowL_fits (t : ByteArray) (xs : List (Int × Int)) (hn : xs.length ≤ 255) (hx : ∀ x ∈ xs, (0 ≤ x.1 ∧ x.1 ≤ 255) ∧ 0 ≤ x.2 ∧ x.2 < 4294967296) : rowL t xs.length xs = t ++ strOfNums (rowLL xs) := by
  have gen : ∀ (xs : List (Int × Int)), (∀ x ∈ xs, (0 ≤ x.1 ∧ x.1 ≤ 255) ∧ 0 ≤ x.2 ∧ x.2 < 4294967296) → ∀ t : ByteArray, xs.foldl (fun t x => lotF t x.1 x.2) t = t ++ strOfNums (flatL xs) := by
    intro xs
    induction xs with
    | nil => intro _ t; show t = t ++ strOfNums []; rw [strOf_nil, ba_append_nil]
    | cons x xs ih =>
      intro hb t
      have hx := hb x (by simp)
      rw [List.foldl_cons, ih (fun y hy => hb y (by simp [hy])), lotF_fits t x.1 x.2 hx.1 hx.2, ByteArray.append_assoc, ← strOf_append]
      rfl
  rw [rowL, smallF_fits [(xs.length : Int)] (Bs.cons (by omega) Bs.nil), gen xs hx, ByteArray.append_assoc, ← strOf_append]
  rfl
theorem bs_row2 {L b g : Nat} {rv : RecV} {l : List Int} {w wx : World} (h : BS L b g rv l w wx) {v : Value} {xs : List Int} (hr : RowI w v xs) (hn : xs.length ≤ 255) (hb : Bs xs) (hl : l.length ≤ 1000) :
    Calls Tryz.prog 68 #[.pointer (some ⟨b, 0, none⟩), v, .func (.func 69) #[] #[.pointer (some ⟨g, 0, none⟩)]] wx (BSPost L b g rv (l ++ rowIL xs) w) := by
  obtain ⟨a, cap, rfl, hx⟩ := h.rowI hr
  refine (rowI2_any b g (Nat.ne_of_gt h.hg) (strOfNums l) xs (by rw [strOf_size]; omega) a cap wx h.wr h.box hx).mono ?_
  rintro e w1 ⟨rfl, hk, hw⟩
  exact ⟨rfl, h.step hk hw (by rw [rowI_fits _ xs hn hb, strOf_append])⟩
theorem bs_row3 {L b g : Nat} {rv : RecV} {l : List Int} {w wx : World} (h : BS L b g rv l w wx) {v : Value} {xs : List Int} (hr : RowI w v xs) (hn : xs.length ≤ 255) (hb : Bs xs) (hl : l.length ≤ 1000) :
    Calls Tryz.prog 68 #[.pointer (some ⟨b, 0, none⟩), v, .func (.func 70) #[] #[.pointer (some ⟨g, 0, none⟩)]] wx (BSPost L b g rv (l ++ rowIL xs) w) := by
  obtain ⟨a, cap, rfl, hx⟩ := h.rowI hr
  refine (rowI3_any b g (Nat.ne_of_gt h.hg) (strOfNums l) xs (by rw [strOf_size]; omega) a cap wx h.wr h.box hx).mono ?_
  rintro e w1 ⟨rfl, hk, hw⟩
  exact ⟨rfl, h.step hk hw (by rw [rowI_fits _ xs hn hb, strOf_append])⟩
theorem bs_lots {L b g : Nat} {rv : RecV} {l : List Int} {w wx : World} (h : BS L b g rv l w wx) {v : Value} {xs : List (Int × Int)} (hr : RowL w v xs) (hn : xs.length ≤ 255) (hb : ∀ x ∈ xs, (0 ≤ x.1 ∧ x.1 ≤ 255) ∧ 0 ≤ x.2 ∧ x.2 < 4294967296) (hl : l.length ≤ 1000) :
    Calls Tryz.prog 65 #[.pointer (some ⟨b, 0, none⟩), v, .func (.func 66) #[] #[.pointer (some ⟨g, 0, none⟩)]] wx (BSPost L b g rv (l ++ rowLL xs) w) := by
  obtain ⟨a, cap, rfl, hx⟩ := h.rowL hr
  refine (rowL_any b g (Nat.ne_of_gt h.hg) (strOfNums l) xs (by rw [strOf_size]; omega) a cap wx h.wr h.box hx).mono ?_
  rintro e w1 ⟨rfl, hk, hw⟩
  exact ⟨rfl, h.step hk hw (by rw [rowL_fits _ xs hn hb, strOf_append])⟩
theorem BS.start {w w1 : World} {L : Nat} {rv : RecV} (hr : RecIn w1 L rv) (hn : Below w.heap.size w w1) (hw : w.heap.size ≤ L) (ty ty2 : TypeId) (W : World) (hW : W = (w1.alloc (.cells #[.string ⟨#[]⟩] ty)).alloc (.cells #[.pointer (some ⟨w1.heap.size, 0, none⟩)] ty2)) :
    BS L w1.heap.size (w1.heap.size + 1) rv [] w W := by
  subst hW
  have h1 := new_alloc w1 (.cells #[.string ⟨#[]⟩] ty)
  have h2 := new_alloc (w1.alloc (.cells #[.string ⟨#[]⟩] ty)) (.cells #[.pointer (some ⟨w1.heap.size, 0, none⟩)] ty2)
  have h3 := new_trans h1 h2
  have hs : (w1.alloc (.cells #[.string ⟨#[]⟩] ty)).heap.size = w1.heap.size + 1 := by simp
  have hc : (w1.alloc (.cells #[.string ⟨#[]⟩] ty)).cell? ⟨w1.heap.size, 0, none⟩ = some (.string ⟨#[]⟩) := cell_new _ _ _ 0
  refine ⟨hr.new h3, ⟨(h2.cell (by simp)).trans hc, (h2.frozen (p := ⟨w1.heap.size, 0, none⟩) (by simp)).trans (frozen_new _ _ _ 0)⟩, ?_, hn.trans (h3.mono hn.size), hr.lt, Nat.lt_succ_self _, hw⟩
  have := cell_new (w1.alloc (.cells #[.string ⟨#[]⟩] ty)) #[.pointer (some ⟨w1.heap.size, 0, none⟩)] ty2 0
  rw [hs] at this
  exact this
end Go.Proofs.YtkpmcjfolncmmaaGreatDoor
namespace Go.Proofs.YtkpmcjfolncmmaaGreatDoor
open Go.RowKit
set_option maxHeartbeats 2000000 in
set_option maxRecDepth 100000 in
theorem bytes_k1 (bb ll oo : Value) (d : RecD) (ho : d.ok) (hkd : d.kind = 1) (hm : mayB d = true) (w : World) (RB : RowI w bb d.barred) (RL : RowL w ll d.lots) (RO : RowI w oo d.owners) :
    Calls Tryz.prog 38 #[.agg (recCells (d.toV bb ll oo))] w fun e w' => e = .returned (.tuple #[.string (bytesF d), .int .i64 0]) ∧ Below w.heap.size w w' := by
  have h : RecAt w (d.toV bb ll oo) d := ⟨bb, ll, oo, rfl, RB, RL, RO⟩
  have hi0 : (Tryz.prog.info? 38).map (·.size) = some (recCells (d.toV bb ll oo)).size := by rw [recCells_size]; kernel_rfl
  obtain ⟨L, hL⟩ : ∃ x, x = w.heap.size := ⟨_, rfl⟩
  obtain ⟨w0, hw0⟩ : ∃ z, z = w.alloc (.cells (recCells (d.toV bb ll oo)) 38) := ⟨_, rfl⟩
  have HN0 : Aside (Below w.heap.size w w0) := by rw [hw0]; exact new_alloc _ _
  have HR0 : Aside (RecIn w0 L (d.toV bb ll oo)) := by rw [hw0, hL]; exact RecIn.box _ _
  have HLw : Aside (w.heap.size ≤ L) := Nat.le_of_eq hL.symm
  have H := aside h
  have HO := aside ho
  have HM := aside hm
  have HKD := aside hkd
  clear h ho hm hkd
  go_enter Tryz.func38, Tryz.ntmps38
  go_upto_region 1 with fail
  rw [← hw0, ← hL]
  clear hw0 hL
  go_wp2_with (first | (refine wpList_load_row rfl _ _ rfl L rfl _ (recCells (d.toV bb ll oo)) (0, 0) _ HR0.out Tryz.underlying38 rfl hi0 ?_) | fail)
  refine (may_any (d.toV bb ll oo) d HO.out w0 (H.out.on HN0.out)).mono ?_
  rintro e w1 ⟨rfl, hb⟩
  rw [HM.out]
  have HR1 := aside (HR0.out.new hb)
  have HN1 := aside (HN0.out.trans (hb.mono HN0.out.size))
  clear hb hi0 HR0 HN0
  go_upto_region 4 with fail
  obtain ⟨W, hW⟩ : ∃ W, W = (w1.alloc (.cells #[.string ⟨#[]⟩] 124)).alloc (.cells #[.pointer (some ⟨w1.heap.size, 0, none⟩)] 122) := ⟨_, rfl⟩
  obtain ⟨b, hb⟩ : ∃ b, b = w1.heap.size := ⟨_, rfl⟩
  obtain ⟨g, hg⟩ : ∃ g, g = w1.heap.size + 1 := ⟨_, rfl⟩
  have H0 : Aside (BS L b g (d.toV bb ll oo) [] w W) := by rw [hb, hg]; exact BS.start HR1.out HN1.out HLw.out _ _ W hW
  clear HR1 HN1
  have RB := aside RB
  have RL := aside RL
  have RO := aside RO
  clear H
  obtain ⟨hr0, _⟩ := mayB_and HM.out
  have hrt := right1 HKD.out hr0
  have HT9 := HO.out.tick.2
  have HBS := (bytes_bs HM.out HO.out).1
  have HL : Aside (bytesL d = [1, d.carriers, d.commit, d.reveal, d.scheme] ++ rowLL d.lots ++ rowIL d.owners) := by rw [Aside, bytesL, if_pos HKD.out]
  rw [HL.out] at HBS
  have HBS := aside HBS
  clear hr0
  rw [← hW, ← hg, ← hb]
  clear hW hg hb
  obtain ⟨q1, q2, q3, q4, q5, q6, q7, q8, q9, q10⟩ := hrt
  have HP1 : Aside (∀ x ∈ d.lots, (0 ≤ x.1 ∧ x.1 ≤ 255) ∧ 0 ≤ x.2 ∧ x.2 < 4294967296) := fun x hx => by have := q7 x hx; omega
  have HP2 : Aside (Bs d.owners) := fun x hx => by have := q8 x hx; omega
  clear q7 q8 q9 q10
  have cg := H0.out.box
  have c0 : W.cell? ⟨L, 0, none⟩ = some (.int .i64 1) := by rw [← HKD.out]; exact H0.out.record.kind
  go_wp2_with fail
  refine (bs_small H0.out [1] (Bs.cons (by omega) (Bs.nil)) (by simp [rowLL, rowIL, be_length, flatL_length] <;> omega) _ rfl _ _ rfl).mono ?_
  rintro e W1 ⟨rfl, hq⟩
  have H1 : Aside (BS L b g (d.toV bb ll oo) ([1]) w W1) := hq
  clear H0 hq cg c0
  have cg := H1.out.box
  have c0 : W1.cell? ⟨L, 0, none⟩ = some (.int .i64 1) := by rw [← HKD.out]; exact H1.out.record.kind
  have c43 : W1.cell? ⟨L, 43, none⟩ = some (.int .i64 d.carriers) := H1.out.record.carriers
  have c44 : W1.cell? ⟨L, 44, none⟩ = some (.int .i64 d.commit) := H1.out.record.commit
  have c45 : W1.cell? ⟨L, 45, none⟩ = some (.int .i64 d.reveal) := H1.out.record.reveal
  have c46 : W1.cell? ⟨L, 46, none⟩ = some (.int .i64 d.scheme) := H1.out.record.scheme
  go_wp2_with fail
  refine (bs_small H1.out [d.carriers, d.commit, d.reveal, d.scheme] (Bs.cons (by omega) (Bs.cons (by omega) (Bs.cons (by omega) (Bs.cons (by omega) (Bs.nil))))) (by simp [rowLL, rowIL, be_length, flatL_length] <;> omega) _ rfl _ _ rfl).mono ?_
  rintro e W2 ⟨rfl, hq⟩
  have H2 : Aside (BS L b g (d.toV bb ll oo) ([1] ++ [d.carriers, d.commit, d.reveal, d.scheme]) w W2) := hq
  clear H1 hq cg c0 c43 c44 c45 c46
  have cg := H2.out.box
  have c0 : W2.cell? ⟨L, 0, none⟩ = some (.int .i64 1) := by rw [← HKD.out]; exact H2.out.record.kind
  have c47 : W2.cell? ⟨L, 47, none⟩ = some ll := H2.out.record.lots
  go_wp2_with fail
  refine (bs_lots H2.out RL.out (by omega) HP1.out (by simp [rowLL, rowIL, be_length, flatL_length] <;> omega)).mono ?_
  rintro e W3 ⟨rfl, hq⟩
  have H3 : Aside (BS L b g (d.toV bb ll oo) ([1] ++ [d.carriers, d.commit, d.reveal, d.scheme] ++ rowLL d.lots) w W3) := hq
  clear H2 hq cg c0 c47
  have cg := H3.out.box
  have c0 : W3.cell? ⟨L, 0, none⟩ = some (.int .i64 1) := by rw [← HKD.out]; exact H3.out.record.kind
  have c48 : W3.cell? ⟨L, 48, none⟩ = some oo := H3.out.record.owners
  go_wp2_with fail
  refine (bs_row2 H3.out RO.out (by omega) HP2.out (by simp [rowLL, rowIL, be_length, flatL_length] <;> omega)).mono ?_
  rintro e W4 ⟨rfl, hq⟩
  have H4 : Aside (BS L b g (d.toV bb ll oo) ([1] ++ [d.carriers, d.commit, d.reveal, d.scheme] ++ rowLL d.lots ++ rowIL d.owners) w W4) := hq
  clear H3 hq cg c0 c48
  have cg := H4.out.box
  have c0 : W4.cell? ⟨L, 0, none⟩ = some (.int .i64 1) := by rw [← HKD.out]; exact H4.out.record.kind
  have cw : W4.cell? ⟨b, 0, none⟩ = some (.string (bytesF d)) := by rw [bytesF, HL.out]; exact H4.out.wr.cell
  have HN := aside H4.out.new
  clear H4
  go_wp2_with fail
  go_ret2
  exact ⟨rfl, HN.out⟩
end Go.Proofs.YtkpmcjfolncmmaaGreatDoor
namespace Go.Proofs.YtkpmcjfolncmmaaGreatDoor
open Go.RowKit
set_option maxHeartbeats 2000000 in
set_option maxRecDepth 100000 in
theorem bytes_k2 (bb ll oo : Value) (d : RecD) (ho : d.ok) (hkd : d.kind = 2) (hm : mayB d = true) (w : World) (RB : RowI w bb d.barred) (RL : RowL w ll d.lots) (RO : RowI w oo d.owners) :
    Calls Tryz.prog 38 #[.agg (recCells (d.toV bb ll oo))] w fun e w' => e = .returned (.tuple #[.string (bytesF d), .int .i64 0]) ∧ Below w.heap.size w w' := by
  have h : RecAt w (d.toV bb ll oo) d := ⟨bb, ll, oo, rfl, RB, RL, RO⟩
  have hi0 : (Tryz.prog.info? 38).map (·.size) = some (recCells (d.toV bb ll oo)).size := by rw [recCells_size]; kernel_rfl
  obtain ⟨L, hL⟩ : ∃ x, x = w.heap.size := ⟨_, rfl⟩
  obtain ⟨w0, hw0⟩ : ∃ z, z = w.alloc (.cells (recCells (d.toV bb ll oo)) 38) := ⟨_, rfl⟩
  have HN0 : Aside (Below w.heap.size w w0) := by rw [hw0]; exact new_alloc _ _
  have HR0 : Aside (RecIn w0 L (d.toV bb ll oo)) := by rw [hw0, hL]; exact RecIn.box _ _
  have HLw : Aside (w.heap.size ≤ L) := Nat.le_of_eq hL.symm
  have H := aside h
  have HO := aside ho
  have HM := aside hm
  have HKD := aside hkd
  clear h ho hm hkd
  go_enter Tryz.func38, Tryz.ntmps38
  go_upto_region 1 with fail
  rw [← hw0, ← hL]
  clear hw0 hL
  go_wp2_with (first | (refine wpList_load_row rfl _ _ rfl L rfl _ (recCells (d.toV bb ll oo)) (0, 0) _ HR0.out Tryz.underlying38 rfl hi0 ?_) | fail)
  refine (may_any (d.toV bb ll oo) d HO.out w0 (H.out.on HN0.out)).mono ?_
  rintro e w1 ⟨rfl, hb⟩
  rw [HM.out]
  have HR1 := aside (HR0.out.new hb)
  have HN1 := aside (HN0.out.trans (hb.mono HN0.out.size))
  clear hb hi0 HR0 HN0
  go_upto_region 4 with fail
  obtain ⟨W, hW⟩ : ∃ W, W = (w1.alloc (.cells #[.string ⟨#[]⟩] 124)).alloc (.cells #[.pointer (some ⟨w1.heap.size, 0, none⟩)] 122) := ⟨_, rfl⟩
  obtain ⟨b, hb⟩ : ∃ b, b = w1.heap.size := ⟨_, rfl⟩
  obtain ⟨g, hg⟩ : ∃ g, g = w1.heap.size + 1 := ⟨_, rfl⟩
  have H0 : Aside (BS L b g (d.toV bb ll oo) [] w W) := by rw [hb, hg]; exact BS.start HR1.out HN1.out HLw.out _ _ W hW
  clear HR1 HN1
  have RB := aside RB
  have RL := aside RL
  have RO := aside RO
  clear H
  obtain ⟨hr0, _⟩ := mayB_and HM.out
  have hrt := right2 HKD.out hr0
  have HT9 := HO.out.tick.2
  have HBS := (bytes_bs HM.out HO.out).1
  have HL : Aside (bytesL d = [2, d.round, d.lot] ++ be 8 d.tick ++ rowIL d.barred) := by rw [Aside, bytesL, if_neg (by rw [HKD.out]; decide), if_pos HKD.out]
  rw [HL.out] at HBS
  have HBS := aside HBS
  clear hr0
  rw [← hW, ← hg, ← hb]
  clear hW hg hb
  obtain ⟨⟨t0, q1⟩, q2, q3⟩ := hrt
  have q4 := rise_len _ q3
  have HP2 : Aside (Bs d.barred) := fun x hx => by have := rise_mem _ q3 x hx; omega
  clear q3
  have cg := H0.out.box
  have c0 : W.cell? ⟨L, 0, none⟩ = some (.int .i64 2) := by rw [← HKD.out]; exact H0.out.record.kind
  go_wp2_with fail
  refine (bs_small H0.out [2] (Bs.cons (by omega) (Bs.nil)) (by simp [rowLL, rowIL, be_length, flatL_length] <;> omega) _ rfl _ _ rfl).mono ?_
  rintro e W1 ⟨rfl, hq⟩
  have H1 : Aside (BS L b g (d.toV bb ll oo) ([2]) w W1) := hq
  clear H0 hq cg c0
  have cg := H1.out.box
  have c0 : W1.cell? ⟨L, 0, none⟩ = some (.int .i64 2) := by rw [← HKD.out]; exact H1.out.record.kind
  have c1 : W1.cell? ⟨L, 1, none⟩ = some (.int .i64 d.round) := H1.out.record.round
  go_wp2_with fail
  refine (bs_small H1.out [d.round] (Bs.cons (by omega) (Bs.nil)) (by simp [rowLL, rowIL, be_length, flatL_length] <;> omega) _ rfl _ _ rfl).mono ?_
  rintro e W2 ⟨rfl, hq⟩
  have H2 : Aside (BS L b g (d.toV bb ll oo) ([2] ++ [d.round]) w W2) := hq
  clear H1 hq cg c0 c1
  have cg := H2.out.box
  have c0 : W2.cell? ⟨L, 0, none⟩ = some (.int .i64 2) := by rw [← HKD.out]; exact H2.out.record.kind
  have c2 : W2.cell? ⟨L, 2, none⟩ = some (.int .i64 d.lot) := H2.out.record.lot
  go_wp2_with fail
  refine (bs_small H2.out [d.lot] (Bs.cons (by omega) (Bs.nil)) (by simp [rowLL, rowIL, be_length, flatL_length] <;> omega) _ rfl _ _ rfl).mono ?_
  rintro e W3 ⟨rfl, hq⟩
  have H3 : Aside (BS L b g (d.toV bb ll oo) ([2] ++ [d.round] ++ [d.lot]) w W3) := hq
  clear H2 hq cg c0 c2
  have cg := H3.out.box
  have c0 : W3.cell? ⟨L, 0, none⟩ = some (.int .i64 2) := by rw [← HKD.out]; exact H3.out.record.kind
  have c4 : W3.cell? ⟨L, 4, none⟩ = some (.int .i64 d.tick) := H3.out.record.tick
  go_wp2_with fail
  refine (bs_num H3.out d.tick (by omega) (by simp [be_length] <;> omega)).mono ?_
  rintro e W4 ⟨rfl, hq⟩
  have H4 : Aside (BS L b g (d.toV bb ll oo) ([2] ++ [d.round] ++ [d.lot] ++ be 8 d.tick) w W4) := hq
  clear H3 hq cg c0 c4
  have cg := H4.out.box
  have c0 : W4.cell? ⟨L, 0, none⟩ = some (.int .i64 2) := by rw [← HKD.out]; exact H4.out.record.kind
  have c5 : W4.cell? ⟨L, 5, none⟩ = some bb := H4.out.record.barred
  go_wp2_with fail
  refine (bs_row3 H4.out RB.out (by omega) HP2.out (by simp [rowLL, rowIL, be_length, flatL_length] <;> omega)).mono ?_
  rintro e W5 ⟨rfl, hq⟩
  have H5 : Aside (BS L b g (d.toV bb ll oo) ([2] ++ [d.round] ++ [d.lot] ++ be 8 d.tick ++ rowIL d.barred) w W5) := hq
  clear H4 hq cg c0 c5
  have cg := H5.out.box
  have c0 : W5.cell? ⟨L, 0, none⟩ = some (.int .i64 2) := by rw [← HKD.out]; exact H5.out.record.kind
  have cw : W5.cell? ⟨b, 0, none⟩ = some (.string (bytesF d)) := by rw [bytesF, HL.out]; exact H5.out.wr.cell
  have HN := aside H5.out.new
  clear H5
  go_wp2_with fail
  go_ret2
  exact ⟨rfl, HN.out⟩
end Go.Proofs.YtkpmcjfolncmmaaGreatDoor
namespace Go.Proofs.YtkpmcjfolncmmaaGreatDoor
open Go.RowKit
set_option maxHeartbeats 2000000 in
set_option maxRecDepth 100000 in
theorem bytes_k3 (bb ll oo : Value) (d : RecD) (ho : d.ok) (hkd : d.kind = 3) (hm : mayB d = true) (w : World) (RB : RowI w bb d.barred) (RL : RowL w ll d.lots) (RO : RowI w oo d.owners) :
    Calls Tryz.prog 38 #[.agg (recCells (d.toV bb ll oo))] w fun e w' => e = .returned (.tuple #[.string (bytesF d), .int .i64 0]) ∧ Below w.heap.size w w' := by
  have h : RecAt w (d.toV bb ll oo) d := ⟨bb, ll, oo, rfl, RB, RL, RO⟩
  have hi0 : (Tryz.prog.info? 38).map (·.size) = some (recCells (d.toV bb ll oo)).size := by rw [recCells_size]; kernel_rfl
  obtain ⟨L, hL⟩ : ∃ x, x = w.heap.size := ⟨_, rfl⟩
  obtain ⟨w0, hw0⟩ : ∃ z, z = w.alloc (.cells (recCells (d.toV bb ll oo)) 38) := ⟨_, rfl⟩
  have HN0 : Aside (Below w.heap.size w w0) := by rw [hw0]; exact new_alloc _ _
  have HR0 : Aside (RecIn w0 L (d.toV bb ll oo)) := by rw [hw0, hL]; exact RecIn.box _ _
  have HLw : Aside (w.heap.size ≤ L) := Nat.le_of_eq hL.symm
  have H := aside h
  have HO := aside ho
  have HM := aside hm
  have HKD := aside hkd
  clear h ho hm hkd
  go_enter Tryz.func38, Tryz.ntmps38
  go_upto_region 1 with fail
  rw [← hw0, ← hL]
  clear hw0 hL
  go_wp2_with (first | (refine wpList_load_row rfl _ _ rfl L rfl _ (recCells (d.toV bb ll oo)) (0, 0) _ HR0.out Tryz.underlying38 rfl hi0 ?_) | fail)
  refine (may_any (d.toV bb ll oo) d HO.out w0 (H.out.on HN0.out)).mono ?_
  rintro e w1 ⟨rfl, hb⟩
  rw [HM.out]
  have HR1 := aside (HR0.out.new hb)
  have HN1 := aside (HN0.out.trans (hb.mono HN0.out.size))
  clear hb hi0 HR0 HN0
  go_upto_region 4 with fail
  obtain ⟨W, hW⟩ : ∃ W, W = (w1.alloc (.cells #[.string ⟨#[]⟩] 124)).alloc (.cells #[.pointer (some ⟨w1.heap.size, 0, none⟩)] 122) := ⟨_, rfl⟩
  obtain ⟨b, hb⟩ : ∃ b, b = w1.heap.size := ⟨_, rfl⟩
  obtain ⟨g, hg⟩ : ∃ g, g = w1.heap.size + 1 := ⟨_, rfl⟩
  have H0 : Aside (BS L b g (d.toV bb ll oo) [] w W) := by rw [hb, hg]; exact BS.start HR1.out HN1.out HLw.out _ _ W hW
  clear HR1 HN1
  have RB := aside RB
  have RL := aside RL
  have RO := aside RO
  clear H
  obtain ⟨hr0, _⟩ := mayB_and HM.out
  have hrt := right3 HKD.out hr0
  have HT9 := HO.out.tick.2
  have HBS := (bytes_bs HM.out HO.out).1
  have HL : Aside (bytesL d = [3, d.round, d.carrier] ++ d.dig ++ be 8 d.tick) := by rw [Aside, bytesL, if_neg (by rw [HKD.out]; decide), if_neg (by rw [HKD.out]; decide), if_pos HKD.out]
  rw [HL.out] at HBS
  have HBS := aside HBS
  clear hr0
  rw [← hW, ← hg, ← hb]
  clear hW hg hb
  obtain ⟨⟨t0, q1⟩, q2⟩ := hrt
  have cg := H0.out.box
  have c0 : W.cell? ⟨L, 0, none⟩ = some (.int .i64 3) := by rw [← HKD.out]; exact H0.out.record.kind
  go_wp2_with fail
  refine (bs_small H0.out [3] (Bs.cons (by omega) (Bs.nil)) (by simp [rowLL, rowIL, be_length, flatL_length] <;> omega) _ rfl _ _ rfl).mono ?_
  rintro e W1 ⟨rfl, hq⟩
  have H1 : Aside (BS L b g (d.toV bb ll oo) ([3]) w W1) := hq
  clear H0 hq cg c0
  have cg := H1.out.box
  have c0 : W1.cell? ⟨L, 0, none⟩ = some (.int .i64 3) := by rw [← HKD.out]; exact H1.out.record.kind
  have c1 : W1.cell? ⟨L, 1, none⟩ = some (.int .i64 d.round) := H1.out.record.round
  go_wp2_with fail
  refine (bs_small H1.out [d.round] (Bs.cons (by omega) (Bs.nil)) (by simp [rowLL, rowIL, be_length, flatL_length] <;> omega) _ rfl _ _ rfl).mono ?_
  rintro e W2 ⟨rfl, hq⟩
  have H2 : Aside (BS L b g (d.toV bb ll oo) ([3] ++ [d.round]) w W2) := hq
  clear H1 hq cg c0 c1
  have cg := H2.out.box
  have c0 : W2.cell? ⟨L, 0, none⟩ = some (.int .i64 3) := by rw [← HKD.out]; exact H2.out.record.kind
  have c3 : W2.cell? ⟨L, 3, none⟩ = some (.int .i64 d.carrier) := H2.out.record.carrier
  go_wp2_with fail
  refine (bs_small H2.out [d.carrier] (Bs.cons (by omega) (Bs.nil)) (by simp [rowLL, rowIL, be_length, flatL_length] <;> omega) _ rfl _ _ rfl).mono ?_
  rintro e W3 ⟨rfl, hq⟩
  have H3 : Aside (BS L b g (d.toV bb ll oo) ([3] ++ [d.round] ++ [d.carrier]) w W3) := hq
  clear H2 hq cg c0 c3
  have cg := H3.out.box
  have c0 : W3.cell? ⟨L, 0, none⟩ = some (.int .i64 3) := by rw [← HKD.out]; exact H3.out.record.kind
  obtain ⟨T, hT⟩ : ∃ T, T = strOfNums ([3] ++ [d.round] ++ [d.carrier]) := ⟨_, rfl⟩
  have cw : W3.cell? ⟨b, 0, none⟩ = some (.string T) := by rw [hT]; exact H3.out.wr.cell
  have fw := H3.out.wr.free
  have hsz : T.size ≤ 1000 := by rw [hT, strOf_size]; simp
  obtain ⟨D, hD⟩ : ∃ D, D = strOfNums d.dig := ⟨_, rfl⟩
  have hds : D.size ≤ 1000 := by rw [hD, strOf_size, HO.out.len]; decide
  have kc := run_convert_bytes_arg (P := Tryz.prog) (w := W3.drew) 26 5 Tryz.underlying26 Tryz.underlying5 L 6 32 32 d.dig HO.out.len (fun i hi => H3.out.record.dig i hi) 9 Tryz.underlying9
  rw [← hD] at kc
  have HX : Aside (BS L b g (d.toV bb ll oo) ([3] ++ [d.round] ++ [d.carrier] ++ d.dig) w (W3.setCell ⟨b, 0, none⟩ (.string (T ++ D))).drew) := by
    refine (H3.out.step (t := T ++ D) (l' := [3] ++ [d.round] ++ [d.carrier] ++ d.dig) ((Keeps.refl _ _).setCell (p := ⟨b, 0, none⟩) (.inr (fun h => h rfl)) _) ⟨World.cell?_setCell_same _ _ _ cw, by rw [World.frozen?_setCell]; exact fw⟩ (by rw [hT, hD, ← strOf_append])).on (new_drew _)
  have hnb : ¬ 9223372036854775807 < T.size + D.size := by omega
  clear hT hD
  go_wp2_with fail
  go_still_tail 10, (by kernel_rfl)
  go_upto_region 25 with fail
  obtain ⟨W4, hW4⟩ : ∃ z, z = (W3.setCell ⟨b, 0, none⟩ (.string (T ++ D))).drew := ⟨_, rfl⟩
  rw [← hW4] at HX ⊢
  clear hW4 cg c0 cw fw hsz hds kc H3
  have H4 := HX
  have cg := H4.out.box
  have c0 : W4.cell? ⟨L, 0, none⟩ = some (.int .i64 3) := by rw [← HKD.out]; exact H4.out.record.kind
  have c4 : W4.cell? ⟨L, 4, none⟩ = some (.int .i64 d.tick) := H4.out.record.tick
  go_wp2_with fail
  refine (bs_num H4.out d.tick (by omega) (by simp [be_length, HO.out.len] <;> omega)).mono ?_
  rintro e W5 ⟨rfl, hq⟩
  have H5 : Aside (BS L b g (d.toV bb ll oo) ([3] ++ [d.round] ++ [d.carrier] ++ d.dig ++ be 8 d.tick) w W5) := hq
  clear H4 hq cg c0 c4
  have cg := H5.out.box
  have c0 : W5.cell? ⟨L, 0, none⟩ = some (.int .i64 3) := by rw [← HKD.out]; exact H5.out.record.kind
  have cw : W5.cell? ⟨b, 0, none⟩ = some (.string (bytesF d)) := by rw [bytesF, HL.out]; exact H5.out.wr.cell
  have HN := aside H5.out.new
  clear H5
  go_wp2_with fail
  go_ret2
  exact ⟨rfl, HN.out⟩
end Go.Proofs.YtkpmcjfolncmmaaGreatDoor
namespace Go.Proofs.YtkpmcjfolncmmaaGreatDoor
open Go.RowKit
set_option maxHeartbeats 2000000 in
set_option maxRecDepth 100000 in
theorem bytes_k4 (bb ll oo : Value) (d : RecD) (ho : d.ok) (hkd : d.kind = 4) (hm : mayB d = true) (w : World) (RB : RowI w bb d.barred) (RL : RowL w ll d.lots) (RO : RowI w oo d.owners) :
    Calls Tryz.prog 38 #[.agg (recCells (d.toV bb ll oo))] w fun e w' => e = .returned (.tuple #[.string (bytesF d), .int .i64 0]) ∧ Below w.heap.size w w' := by
  have h : RecAt w (d.toV bb ll oo) d := ⟨bb, ll, oo, rfl, RB, RL, RO⟩
  have hi0 : (Tryz.prog.info? 38).map (·.size) = some (recCells (d.toV bb ll oo)).size := by rw [recCells_size]; kernel_rfl
  obtain ⟨L, hL⟩ : ∃ x, x = w.heap.size := ⟨_, rfl⟩
  obtain ⟨w0, hw0⟩ : ∃ z, z = w.alloc (.cells (recCells (d.toV bb ll oo)) 38) := ⟨_, rfl⟩
  have HN0 : Aside (Below w.heap.size w w0) := by rw [hw0]; exact new_alloc _ _
  have HR0 : Aside (RecIn w0 L (d.toV bb ll oo)) := by rw [hw0, hL]; exact RecIn.box _ _
  have HLw : Aside (w.heap.size ≤ L) := Nat.le_of_eq hL.symm
  have H := aside h
  have HO := aside ho
  have HM := aside hm
  have HKD := aside hkd
  clear h ho hm hkd
  go_enter Tryz.func38, Tryz.ntmps38
  go_upto_region 1 with fail
  rw [← hw0, ← hL]
  clear hw0 hL
  go_wp2_with (first | (refine wpList_load_row rfl _ _ rfl L rfl _ (recCells (d.toV bb ll oo)) (0, 0) _ HR0.out Tryz.underlying38 rfl hi0 ?_) | fail)
  refine (may_any (d.toV bb ll oo) d HO.out w0 (H.out.on HN0.out)).mono ?_
  rintro e w1 ⟨rfl, hb⟩
  rw [HM.out]
  have HR1 := aside (HR0.out.new hb)
  have HN1 := aside (HN0.out.trans (hb.mono HN0.out.size))
  clear hb hi0 HR0 HN0
  go_upto_region 4 with fail
  obtain ⟨W, hW⟩ : ∃ W, W = (w1.alloc (.cells #[.string ⟨#[]⟩] 124)).alloc (.cells #[.pointer (some ⟨w1.heap.size, 0, none⟩)] 122) := ⟨_, rfl⟩
  obtain ⟨b, hb⟩ : ∃ b, b = w1.heap.size := ⟨_, rfl⟩
  obtain ⟨g, hg⟩ : ∃ g, g = w1.heap.size + 1 := ⟨_, rfl⟩
  have H0 : Aside (BS L b g (d.toV bb ll oo) [] w W) := by rw [hb, hg]; exact BS.start HR1.out HN1.out HLw.out _ _ W hW
  clear HR1 HN1
  have RB := aside RB
  have RL := aside RL
  have RO := aside RO
  clear H
  obtain ⟨hr0, _⟩ := mayB_and HM.out
  have hrt := right4 HKD.out hr0
  have HT9 := HO.out.tick.2
  have HBS := (bytes_bs HM.out HO.out).1
  have HL : Aside (bytesL d = [4, d.round, d.carrier] ++ be 8 d.bid ++ be 8 d.nonce ++ be 8 d.tick) := by rw [Aside, bytesL, if_neg (by rw [HKD.out]; decide), if_neg (by rw [HKD.out]; decide), if_neg (by rw [HKD.out]; decide), if_pos HKD.out]
  rw [HL.out] at HBS
  have HBS := aside HBS
  clear hr0
  rw [← hW, ← hg, ← hb]
  clear hW hg hb
  obtain ⟨⟨⟨t0, q1⟩, q2⟩, q3⟩ := hrt
  have q5 := HO.out.bid
  have q6 := HO.out.nonce
  have cg := H0.out.box
  have c0 : W.cell? ⟨L, 0, none⟩ = some (.int .i64 4) := by rw [← HKD.out]; exact H0.out.record.kind
  go_wp2_with fail
  refine (bs_small H0.out [4] (Bs.cons (by omega) (Bs.nil)) (by simp [rowLL, rowIL, be_length, flatL_length] <;> omega) _ rfl _ _ rfl).mono ?_
  rintro e W1 ⟨rfl, hq⟩
  have H1 : Aside (BS L b g (d.toV bb ll oo) ([4]) w W1) := hq
  clear H0 hq cg c0
  have cg := H1.out.box
  have c0 : W1.cell? ⟨L, 0, none⟩ = some (.int .i64 4) := by rw [← HKD.out]; exact H1.out.record.kind
  have c1 : W1.cell? ⟨L, 1, none⟩ = some (.int .i64 d.round) := H1.out.record.round
  go_wp2_with fail
  refine (bs_small H1.out [d.round] (Bs.cons (by omega) (Bs.nil)) (by simp [rowLL, rowIL, be_length, flatL_length] <;> omega) _ rfl _ _ rfl).mono ?_
  rintro e W2 ⟨rfl, hq⟩
  have H2 : Aside (BS L b g (d.toV bb ll oo) ([4] ++ [d.round]) w W2) := hq
  clear H1 hq cg c0 c1
  have cg := H2.out.box
  have c0 : W2.cell? ⟨L, 0, none⟩ = some (.int .i64 4) := by rw [← HKD.out]; exact H2.out.record.kind
  have c3 : W2.cell? ⟨L, 3, none⟩ = some (.int .i64 d.carrier) := H2.out.record.carrier
  go_wp2_with fail
  refine (bs_small H2.out [d.carrier] (Bs.cons (by omega) (Bs.nil)) (by simp [rowLL, rowIL, be_length, flatL_length] <;> omega) _ rfl _ _ rfl).mono ?_
  rintro e W3 ⟨rfl, hq⟩
  have H3 : Aside (BS L b g (d.toV bb ll oo) ([4] ++ [d.round] ++ [d.carrier]) w W3) := hq
  clear H2 hq cg c0 c3
  have cg := H3.out.box
  have c0 : W3.cell? ⟨L, 0, none⟩ = some (.int .i64 4) := by rw [← HKD.out]; exact H3.out.record.kind
  have c38 : W3.cell? ⟨L, 38, none⟩ = some (.int .u64 d.bid) := H3.out.record.bid
  go_wp2_with fail
  refine (bs_num H3.out d.bid (by omega) (by simp [be_length] <;> omega)).mono ?_
  rintro e W4 ⟨rfl, hq⟩
  have H4 : Aside (BS L b g (d.toV bb ll oo) ([4] ++ [d.round] ++ [d.carrier] ++ be 8 d.bid) w W4) := hq
  clear H3 hq cg c0 c38
  have cg := H4.out.box
  have c0 : W4.cell? ⟨L, 0, none⟩ = some (.int .i64 4) := by rw [← HKD.out]; exact H4.out.record.kind
  have c39 : W4.cell? ⟨L, 39, none⟩ = some (.int .u64 d.nonce) := H4.out.record.nonce
  go_wp2_with fail
  refine (bs_num H4.out d.nonce (by omega) (by simp [be_length] <;> omega)).mono ?_
  rintro e W5 ⟨rfl, hq⟩
  have H5 : Aside (BS L b g (d.toV bb ll oo) ([4] ++ [d.round] ++ [d.carrier] ++ be 8 d.bid ++ be 8 d.nonce) w W5) := hq
  clear H4 hq cg c0 c39
  have cg := H5.out.box
  have c0 : W5.cell? ⟨L, 0, none⟩ = some (.int .i64 4) := by rw [← HKD.out]; exact H5.out.record.kind
  have c4 : W5.cell? ⟨L, 4, none⟩ = some (.int .i64 d.tick) := H5.out.record.tick
  go_wp2_with fail
  refine (bs_num H5.out d.tick (by omega) (by simp [be_length] <;> omega)).mono ?_
  rintro e W6 ⟨rfl, hq⟩
  have H6 : Aside (BS L b g (d.toV bb ll oo) ([4] ++ [d.round] ++ [d.carrier] ++ be 8 d.bid ++ be 8 d.nonce ++ be 8 d.tick) w W6) := hq
  clear H5 hq cg c0 c4
  have cg := H6.out.box
  have c0 : W6.cell? ⟨L, 0, none⟩ = some (.int .i64 4) := by rw [← HKD.out]; exact H6.out.record.kind
  have cw : W6.cell? ⟨b, 0, none⟩ = some (.string (bytesF d)) := by rw [bytesF, HL.out]; exact H6.out.wr.cell
  have HN := aside H6.out.new
  clear H6
  go_wp2_with fail
  go_ret2
  exact ⟨rfl, HN.out⟩
end Go.Proofs.YtkpmcjfolncmmaaGreatDoor
namespace Go.Proofs.YtkpmcjfolncmmaaGreatDoor
open Go.RowKit
set_option maxHeartbeats 2000000 in
set_option maxRecDepth 100000 in
theorem bytes_k5 (bb ll oo : Value) (d : RecD) (ho : d.ok) (hkd : d.kind = 5) (hm : mayB d = true) (w : World) (RB : RowI w bb d.barred) (RL : RowL w ll d.lots) (RO : RowI w oo d.owners) :
    Calls Tryz.prog 38 #[.agg (recCells (d.toV bb ll oo))] w fun e w' => e = .returned (.tuple #[.string (bytesF d), .int .i64 0]) ∧ Below w.heap.size w w' := by
  have h : RecAt w (d.toV bb ll oo) d := ⟨bb, ll, oo, rfl, RB, RL, RO⟩
  have hi0 : (Tryz.prog.info? 38).map (·.size) = some (recCells (d.toV bb ll oo)).size := by rw [recCells_size]; kernel_rfl
  obtain ⟨L, hL⟩ : ∃ x, x = w.heap.size := ⟨_, rfl⟩
  obtain ⟨w0, hw0⟩ : ∃ z, z = w.alloc (.cells (recCells (d.toV bb ll oo)) 38) := ⟨_, rfl⟩
  have HN0 : Aside (Below w.heap.size w w0) := by rw [hw0]; exact new_alloc _ _
  have HR0 : Aside (RecIn w0 L (d.toV bb ll oo)) := by rw [hw0, hL]; exact RecIn.box _ _
  have HLw : Aside (w.heap.size ≤ L) := Nat.le_of_eq hL.symm
  have H := aside h
  have HO := aside ho
  have HM := aside hm
  have HKD := aside hkd
  clear h ho hm hkd
  go_enter Tryz.func38, Tryz.ntmps38
  go_upto_region 1 with fail
  rw [← hw0, ← hL]
  clear hw0 hL
  go_wp2_with (first | (refine wpList_load_row rfl _ _ rfl L rfl _ (recCells (d.toV bb ll oo)) (0, 0) _ HR0.out Tryz.underlying38 rfl hi0 ?_) | fail)
  refine (may_any (d.toV bb ll oo) d HO.out w0 (H.out.on HN0.out)).mono ?_
  rintro e w1 ⟨rfl, hb⟩
  rw [HM.out]
  have HR1 := aside (HR0.out.new hb)
  have HN1 := aside (HN0.out.trans (hb.mono HN0.out.size))
  clear hb hi0 HR0 HN0
  go_upto_region 4 with fail
  obtain ⟨W, hW⟩ : ∃ W, W = (w1.alloc (.cells #[.string ⟨#[]⟩] 124)).alloc (.cells #[.pointer (some ⟨w1.heap.size, 0, none⟩)] 122) := ⟨_, rfl⟩
  obtain ⟨b, hb⟩ : ∃ b, b = w1.heap.size := ⟨_, rfl⟩
  obtain ⟨g, hg⟩ : ∃ g, g = w1.heap.size + 1 := ⟨_, rfl⟩
  have H0 : Aside (BS L b g (d.toV bb ll oo) [] w W) := by rw [hb, hg]; exact BS.start HR1.out HN1.out HLw.out _ _ W hW
  clear HR1 HN1
  have RB := aside RB
  have RL := aside RL
  have RO := aside RO
  clear H
  obtain ⟨hr0, _⟩ := mayB_and HM.out
  have hrt := right5 HKD.out hr0
  have HT9 := HO.out.tick.2
  have HBS := (bytes_bs HM.out HO.out).1
  have HL : Aside (bytesL d = [5, d.round, d.state, d.winner + 1] ++ be 8 d.price ++ be 8 d.tick) := by rw [Aside, bytesL, if_neg (by rw [HKD.out]; decide), if_neg (by rw [HKD.out]; decide), if_neg (by rw [HKD.out]; decide), if_neg (by rw [HKD.out]; decide), if_pos HKD.out]
  rw [HL.out] at HBS
  have HBS := aside HBS
  clear hr0
  rw [← hW, ← hg, ← hb]
  clear hW hg hb
  obtain ⟨⟨t0, q1⟩, q2⟩ := hrt
  have q3 : 0 ≤ d.state ∧ d.state ≤ 4 := by omega
  have q4 : -1 ≤ d.winner ∧ d.winner ≤ 7 := by omega
  have q5 := HO.out.price
  clear q2
  have cg := H0.out.box
  have c0 : W.cell? ⟨L, 0, none⟩ = some (.int .i64 5) := by rw [← HKD.out]; exact H0.out.record.kind
  go_wp2_with fail
  refine (bs_small H0.out [5] (Bs.cons (by omega) (Bs.nil)) (by simp [rowLL, rowIL, be_length, flatL_length] <;> omega) _ rfl _ _ rfl).mono ?_
  rintro e W1 ⟨rfl, hq⟩
  have H1 : Aside (BS L b g (d.toV bb ll oo) ([5]) w W1) := hq
  clear H0 hq cg c0
  have cg := H1.out.box
  have c0 : W1.cell? ⟨L, 0, none⟩ = some (.int .i64 5) := by rw [← HKD.out]; exact H1.out.record.kind
  have c1 : W1.cell? ⟨L, 1, none⟩ = some (.int .i64 d.round) := H1.out.record.round
  go_wp2_with fail
  refine (bs_small H1.out [d.round] (Bs.cons (by omega) (Bs.nil)) (by simp [rowLL, rowIL, be_length, flatL_length] <;> omega) _ rfl _ _ rfl).mono ?_
  rintro e W2 ⟨rfl, hq⟩
  have H2 : Aside (BS L b g (d.toV bb ll oo) ([5] ++ [d.round]) w W2) := hq
  clear H1 hq cg c0 c1
  have cg := H2.out.box
  have c0 : W2.cell? ⟨L, 0, none⟩ = some (.int .i64 5) := by rw [← HKD.out]; exact H2.out.record.kind
  have c40 : W2.cell? ⟨L, 40, none⟩ = some (.int .i64 d.state) := H2.out.record.state
  have c41 : W2.cell? ⟨L, 41, none⟩ = some (.int .i64 d.winner) := H2.out.record.winner
  go_wp2_with fail
  refine (bs_small H2.out [d.state, d.winner + 1] (Bs.cons (by omega) (Bs.cons (by omega) (Bs.nil))) (by simp [rowLL, rowIL, be_length, flatL_length] <;> omega) _ rfl _ _ rfl).mono ?_
  rintro e W3 ⟨rfl, hq⟩
  have H3 : Aside (BS L b g (d.toV bb ll oo) ([5] ++ [d.round] ++ [d.state, d.winner + 1]) w W3) := hq
  clear H2 hq cg c0 c40 c41
  have cg := H3.out.box
  have c0 : W3.cell? ⟨L, 0, none⟩ = some (.int .i64 5) := by rw [← HKD.out]; exact H3.out.record.kind
  have c42 : W3.cell? ⟨L, 42, none⟩ = some (.int .u64 d.price) := H3.out.record.price
  go_wp2_with fail
  refine (bs_num H3.out d.price (by omega) (by simp [be_length] <;> omega)).mono ?_
  rintro e W4 ⟨rfl, hq⟩
  have H4 : Aside (BS L b g (d.toV bb ll oo) ([5] ++ [d.round] ++ [d.state, d.winner + 1] ++ be 8 d.price) w W4) := hq
  clear H3 hq cg c0 c42
  have cg := H4.out.box
  have c0 : W4.cell? ⟨L, 0, none⟩ = some (.int .i64 5) := by rw [← HKD.out]; exact H4.out.record.kind
  have c4 : W4.cell? ⟨L, 4, none⟩ = some (.int .i64 d.tick) := H4.out.record.tick
  go_wp2_with fail
  refine (bs_num H4.out d.tick (by omega) (by simp [be_length] <;> omega)).mono ?_
  rintro e W5 ⟨rfl, hq⟩
  have H5 : Aside (BS L b g (d.toV bb ll oo) ([5] ++ [d.round] ++ [d.state, d.winner + 1] ++ be 8 d.price ++ be 8 d.tick) w W5) := hq
  clear H4 hq cg c0 c4
  have cg := H5.out.box
  have c0 : W5.cell? ⟨L, 0, none⟩ = some (.int .i64 5) := by rw [← HKD.out]; exact H5.out.record.kind
  have cw : W5.cell? ⟨b, 0, none⟩ = some (.string (bytesF d)) := by rw [bytesF, HL.out]; exact H5.out.wr.cell
  have HN := aside H5.out.new
  clear H5
  go_wp2_with fail
  go_ret2
  exact ⟨rfl, HN.out⟩
end Go.Proofs.YtkpmcjfolncmmaaGreatDoor
namespace Go.Proofs.YtkpmcjfolncmmaaGreatDoor
open Go.RowKit
set_option maxHeartbeats 2000000 in
set_option maxRecDepth 100000 in
theorem bytes_k6 (bb ll oo : Value) (d : RecD) (ho : d.ok) (hkd : d.kind = 6) (hm : mayB d = true) (w : World) (RB : RowI w bb d.barred) (RL : RowL w ll d.lots) (RO : RowI w oo d.owners) :
    Calls Tryz.prog 38 #[.agg (recCells (d.toV bb ll oo))] w fun e w' => e = .returned (.tuple #[.string (bytesF d), .int .i64 0]) ∧ Below w.heap.size w w' := by
  have h : RecAt w (d.toV bb ll oo) d := ⟨bb, ll, oo, rfl, RB, RL, RO⟩
  have hi0 : (Tryz.prog.info? 38).map (·.size) = some (recCells (d.toV bb ll oo)).size := by rw [recCells_size]; kernel_rfl
  obtain ⟨L, hL⟩ : ∃ x, x = w.heap.size := ⟨_, rfl⟩
  obtain ⟨w0, hw0⟩ : ∃ z, z = w.alloc (.cells (recCells (d.toV bb ll oo)) 38) := ⟨_, rfl⟩
  have HN0 : Aside (Below w.heap.size w w0) := by rw [hw0]; exact new_alloc _ _
  have HR0 : Aside (RecIn w0 L (d.toV bb ll oo)) := by rw [hw0, hL]; exact RecIn.box _ _
  have HLw : Aside (w.heap.size ≤ L) := Nat.le_of_eq hL.symm
  have H := aside h
  have HO := aside ho
  have HM := aside hm
  have HKD := aside hkd
  clear h ho hm hkd
  go_enter Tryz.func38, Tryz.ntmps38
  go_upto_region 1 with fail
  rw [← hw0, ← hL]
  clear hw0 hL
  go_wp2_with (first | (refine wpList_load_row rfl _ _ rfl L rfl _ (recCells (d.toV bb ll oo)) (0, 0) _ HR0.out Tryz.underlying38 rfl hi0 ?_) | fail)
  refine (may_any (d.toV bb ll oo) d HO.out w0 (H.out.on HN0.out)).mono ?_
  rintro e w1 ⟨rfl, hb⟩
  rw [HM.out]
  have HR1 := aside (HR0.out.new hb)
  have HN1 := aside (HN0.out.trans (hb.mono HN0.out.size))
  clear hb hi0 HR0 HN0
  go_upto_region 4 with fail
  obtain ⟨W, hW⟩ : ∃ W, W = (w1.alloc (.cells #[.string ⟨#[]⟩] 124)).alloc (.cells #[.pointer (some ⟨w1.heap.size, 0, none⟩)] 122) := ⟨_, rfl⟩
  obtain ⟨b, hb⟩ : ∃ b, b = w1.heap.size := ⟨_, rfl⟩
  obtain ⟨g, hg⟩ : ∃ g, g = w1.heap.size + 1 := ⟨_, rfl⟩
  have H0 : Aside (BS L b g (d.toV bb ll oo) [] w W) := by rw [hb, hg]; exact BS.start HR1.out HN1.out HLw.out _ _ W hW
  clear HR1 HN1
  have RB := aside RB
  have RL := aside RL
  have RO := aside RO
  clear H
  obtain ⟨hr0, _⟩ := mayB_and HM.out
  have hrt := right6 HKD.out hr0
  have HT9 := HO.out.tick.2
  have HBS := (bytes_bs HM.out HO.out).1
  have HL : Aside (bytesL d = [6] ++ be 8 d.tick) := by rw [Aside, bytesL, if_neg (by rw [HKD.out]; decide), if_neg (by rw [HKD.out]; decide), if_neg (by rw [HKD.out]; decide), if_neg (by rw [HKD.out]; decide), if_neg (by rw [HKD.out]; decide)]
  rw [HL.out] at HBS
  have HBS := aside HBS
  clear hr0
  rw [← hW, ← hg, ← hb]
  clear hW hg hb
  obtain ⟨⟨t0, q1⟩, q2⟩ := hrt
  clear q2
  have cg := H0.out.box
  have c0 : W.cell? ⟨L, 0, none⟩ = some (.int .i64 6) := by rw [← HKD.out]; exact H0.out.record.kind
  go_wp2_with fail
  refine (bs_small H0.out [6] (Bs.cons (by omega) (Bs.nil)) (by simp [rowLL, rowIL, be_length, flatL_length] <;> omega) _ rfl _ _ rfl).mono ?_
  rintro e W1 ⟨rfl, hq⟩
  have H1 : Aside (BS L b g (d.toV bb ll oo) ([6]) w W1) := hq
  clear H0 hq cg c0
  have cg := H1.out.box
  have c0 : W1.cell? ⟨L, 0, none⟩ = some (.int .i64 6) := by rw [← HKD.out]; exact H1.out.record.kind
  have c4 : W1.cell? ⟨L, 4, none⟩ = some (.int .i64 d.tick) := H1.out.record.tick
  go_wp2_with fail
  refine (bs_num H1.out d.tick (by omega) (by simp [be_length] <;> omega)).mono ?_
  rintro e W2 ⟨rfl, hq⟩
  have H2 : Aside (BS L b g (d.toV bb ll oo) ([6] ++ be 8 d.tick) w W2) := hq
  clear H1 hq cg c0 c4
  have cg := H2.out.box
  have c0 : W2.cell? ⟨L, 0, none⟩ = some (.int .i64 6) := by rw [← HKD.out]; exact H2.out.record.kind
  have cw : W2.cell? ⟨b, 0, none⟩ = some (.string (bytesF d)) := by rw [bytesF, HL.out]; exact H2.out.wr.cell
  have HN := aside H2.out.new
  clear H2
  go_wp2_with fail
  go_ret2
  exact ⟨rfl, HN.out⟩
end Go.Proofs.YtkpmcjfolncmmaaGreatDoor
namespace Go.Proofs.YtkpmcjfolncmmaaGreatDoor
open Go.RowKit
def bytesA (d : RecD) : ByteArray × Int := if mayB d = true then (bytesF d, 0) else (⟨#[]⟩, 15)
set_option maxHeartbeats 2000000 in
set_option maxRecDepth 100000 in
theorem bytes_no (rv : RecV) (d : RecD) (ho : d.ok) (hm : mayB d = false) (w : World) (h : RecAt w rv d) :
    Calls Tryz.prog 38 #[.agg (recCells rv)] w fun e w' => e = .returned (.tuple #[.string ⟨#[]⟩, .int .i64 15]) ∧ Below w.heap.size w w' := by
  have hi0 : (Tryz.prog.info? 38).map (·.size) = some (recCells rv).size := by rw [recCells_size]; kernel_rfl
  obtain ⟨L, hL⟩ : ∃ x, x = w.heap.size := ⟨_, rfl⟩
  obtain ⟨w0, hw0⟩ : ∃ z, z = w.alloc (.cells (recCells rv) 38) := ⟨_, rfl⟩
  have HN0 : Aside (Below w.heap.size w w0) := by rw [hw0]; exact new_alloc _ _
  have HR0 : Aside (RecIn w0 L rv) := by rw [hw0, hL]; exact RecIn.box _ _
  have H := aside h
  have HO := aside ho
  have HM := aside hm
  clear h ho hm
  go_enter Tryz.func38, Tryz.ntmps38
  go_upto_region 1 with fail
  rw [← hw0, ← hL]
  clear hw0 hL
  go_wp2_with (first | (refine wpList_load_row rfl _ _ rfl L rfl _ (recCells rv) (0, 0) _ HR0.out Tryz.underlying38 rfl hi0 ?_) | fail)
  refine (may_any rv d HO.out w0 (H.out.on HN0.out)).mono ?_
  rintro e w1 ⟨rfl, hb⟩
  rw [HM.out]
  have HN1 := aside (HN0.out.trans (hb.mono HN0.out.size))
  clear hb hi0 HR0 HN0
  go_wp2_with fail
  go_ret2
  exact ⟨rfl, HN1.out⟩
theorem bytes_any (rv : RecV) (d : RecD) (ho : d.ok) (w : World) (h : RecAt w rv d) :
    Calls Tryz.prog 38 #[.agg (recCells rv)] w fun e w' => e = .returned (.tuple #[.string (bytesA d).1, .int .i64 (bytesA d).2]) ∧ Below w.heap.size w w' := by
  unfold bytesA
  by_cases hm : mayB d = true
  · rw [if_pos hm]
    obtain ⟨b, l, o, rfl, RB, RL, RO⟩ := h
    have hk := may_kind hm
    have h6 : d.kind = 1 ∨ d.kind = 2 ∨ d.kind = 3 ∨ d.kind = 4 ∨ d.kind = 5 ∨ d.kind = 6 := by omega
    rcases h6 with e | e | e | e | e | e
    · exact bytes_k1 b l o d ho e hm w RB RL RO
    · exact bytes_k2 b l o d ho e hm w RB RL RO
    · exact bytes_k3 b l o d ho e hm w RB RL RO
    · exact bytes_k4 b l o d ho e hm w RB RL RO
    · exact bytes_k5 b l o d ho e hm w RB RL RO
    · exact bytes_k6 b l o d ho e hm w RB RL RO
  · rw [if_neg hm]
    exact bytes_no rv d ho (by simpa using hm) w h
end Go.Proofs.YtkpmcjfolncmmaaGreatDoor
namespace Go.Proofs.YtkpmcjfolncmmaaGreatDoor
open Go.RowKit
def sumB (K : Nat → Int) (F : S8) (t : ByteArray) : ByteArray := strOfNums (seg (dgB (sumS K F t)) 0 32)
theorem dgB_u8 (z : S8) (j : Nat) : 0 ≤ dgB z j ∧ dgB z j ≤ 255 := by unfold dgB; omega
theorem sumB_size (K : Nat → Int) (F : S8) (t : ByteArray) : (sumB K F t).size = 32 := by rw [sumB, strOf_size, seg_length]
theorem sumB_bs (z : S8) : Bs (seg (dgB z) 0 32) := fun x hx => by
  obtain ⟨i, _, rfl⟩ := List.mem_map.1 hx
  exact dgB_u8 z _
theorem sumB_byte (K : Nat → Int) (F : S8) (t : ByteArray) (j : Nat) (hj : j < 32) : byteOf (sumB K F t) j = dgB (sumS K F t) j := by
  rw [sumB, byteOf_strOf _ (sumB_bs _), List.getD_eq_getElem?_getD, seg_get _ _ _ _ hj, Nat.zero_add]
  rfl
theorem digestA_list (K : Nat → Int) (F : S8) (t : ByteArray) : (digestA (sumS K F t)).toList = (seg (byteOf (sumB K F t)) 0 32).map (Value.int .u8) := by
  apply List.ext_getElem?
  intro i
  by_cases hi : i < 32
  · rw [Array.getElem?_toList, digestA_get _ i hi, List.getElem?_map, seg_get _ _ _ _ hi, Nat.zero_add, sumB_byte K F t i hi]
    rfl
  · rw [List.getElem?_eq_none (by simp [digestA_size]; omega), List.getElem?_eq_none (by rw [List.length_map, seg_length]; omega)]
structure SumAt (w : World) (b : Nat) (s : ByteArray) : Prop where
  len : s.size = 32
  cell : ∀ j, j < 32 → w.cell? ⟨b, j, none⟩ = some (.int .u8 (byteOf s j))
  free : ∀ j, w.frozen? ⟨b, j, none⟩ = false
theorem SumAt.lt {w : World} {b : Nat} {s : ByteArray} (h : SumAt w b s) : b < w.heap.size := cell_lt (h.cell 0 (by omega))
theorem SumAt.on {w w' : World} {b : Nat} {s : ByteArray} (h : SumAt w b s) (hb : Below w.heap.size w w') : SumAt w' b s :=
  ⟨h.len, fun j hj => (hb.cell (p := ⟨b, j, none⟩) h.lt).trans (h.cell j hj), fun j => (hb.frozen (p := ⟨b, j, none⟩) h.lt).trans (h.free j)⟩
theorem SumAt.keeps {K : Nat → Prop} {w w' : World} {b : Nat} {s : ByteArray} (h : SumAt w b s) (hk : Keeps K w w') (hK : K b) : SumAt w' b s :=
  ⟨h.len, fun j hj => cell_keeps (h.cell j hj) hk hK, fun j => (World.frozen?_of_block (w := w) (a := ⟨b, j, none⟩) (hk.block b h.lt hK)).trans (h.free j)⟩
theorem SumAt.nums {w : World} {b : Nat} {s : ByteArray} (h : SumAt w b s) : ∀ i, i < 32 → w.cell? ⟨b, 0 + i, none⟩ = some (.int .u8 ((numsOf s).getD i 0)) := by
  intro i hi
  rw [Nat.zero_add, h.cell i hi, byteOf_nums]
theorem ShaTabs.keeps {F : S8} {K : Nat → Int} {kk : Array Value} {w w' : World} {b : Nat} (h : ShaTabs F K kk w) (hk : Keeps (· ≠ b) w w') (h1 : 1 ≠ b) (h2 : 2 ≠ b) : ShaTabs F K kk w' :=
  ⟨fun j hj => cell_keeps (h.first j hj) hk h1, h.rounds.of_block (hk.block _ h.rounds.lt h2), h.size, h.get, h.ok⟩
def NextPost (K : Nat → Int) (F : S8) (b : Nat) (t : ByteArray) (w : World) (e : Ending) (w' : World) : Prop :=
  e = .returned (.string (sumB K F t)) ∧ Keeps (· ≠ b) w w' ∧ SumAt w' b (sumB K F t) ∧ ∀ j, 32 ≤ j → w'.cell? ⟨b, j, none⟩ = w.cell? ⟨b, j, none⟩
theorem sum_stored {b : Nat} {s u : ByteArray} {w : World} (h : SumAt w b s) (hu : u.size = 32) (w2 : World) (hw : w2 = w.setCells b 0 ((seg (byteOf u) 0 32).map (Value.int .u8))) :
    SumAt w2 b u ∧ Keeps (· ≠ b) w w2 ∧ ∀ j, 32 ≤ j → w2.cell? ⟨b, j, none⟩ = w.cell? ⟨b, j, none⟩ := by
  subst hw
  have hl : ((seg (byteOf u) 0 32).map (Value.int .u8)).length = 32 := by rw [List.length_map, seg_length]
  refine ⟨⟨hu, fun j hj => ?_, fun j => ?_⟩, ?_, fun j hj => ?_⟩
  · have := World.cell?_setCells_in b ((seg (byteOf u) 0 32).map (Value.int .u8)) 0 w (fun i hi => by rw [Nat.zero_add, h.cell i (by omega)]; rfl) j (by omega)
    rw [Nat.zero_add] at this
    rw [this]
    simp [seg]
  · rw [World.frozen?_setCells]
    exact h.free j
  · have : ∀ (vs : List Value) (o : Nat) (v : World), Keeps (· ≠ b) w v → Keeps (· ≠ b) w (v.setCells b o vs) := by
      intro vs
      induction vs with
      | nil => intro o v hv; exact hv
      | cons x vs ih => intro o v hv; exact ih _ _ (hv.setCell (p := ⟨b, o, none⟩) (.inr (fun e => e rfl)) x)
    exact this _ _ _ (Keeps.refl _ _)
  · exact World.cell?_setCells_out b _ 0 w ⟨b, j, none⟩ (fun _ _ => .inr (by rw [hl]; simpa using hj))
set_option maxHeartbeats 400000 in
set_option maxRecDepth 100000 in
theorem next_any (b : Nat) (s x : ByteArray) (hx : x.size ≤ 1099511627776) (F : S8) (K : Nat → Int) (kk : Array Value) (w : World) (ht : ShaTabs F K kk w) (h : SumAt w b s) :
    Calls Tryz.prog 72 #[.pointer (some ⟨b, 0, none⟩), .string x] w (NextPost K F b (s ++ x) w) := by
  have hss := h.len
  have kc := run_convert_bytes_arg (P := Tryz.prog) (w := w) 26 5 Tryz.underlying26 Tryz.underlying5 b 0 32 32 (numsOf s) ((numsOf_length s).trans h.len) h.nums 9 Tryz.underlying9
  rw [strOf_numsOf] at kc
  have hsz : (s ++ x).size = s.size + x.size := ByteArray.size_append
  have hnb : ¬ 9223372036854775807 < s.size + x.size := by omega
  obtain ⟨t, htt⟩ : ∃ t, t = s ++ x := ⟨_, rfl⟩
  have HTT := aside htt
  have HSZ : Aside (t.size ≤ 9223372036854775807) := by rw [Aside, htt, hsz]; omega
  have HT := aside ht
  have H := aside h
  have hi0 : (Tryz.prog.info? 33).map (·.size) = some (digestA (sumS K F t)).size := by rw [digestA_size]; kernel_rfl
  clear ht h hsz htt hss
  go_enter Tryz.func72, Tryz.ntmps72
  go_wp2_with fail
  rw [← HTT.out]
  refine (sum_any t HSZ.out F K kk w HT.out).mono ?_
  rintro e w1 ⟨rfl, hb⟩
  have H1 := aside (H.out.on hb)
  have HB := aside hb
  obtain ⟨u, hu⟩ : ∃ u, u = sumB K F t := ⟨_, rfl⟩
  have HU := aside hu
  obtain ⟨w2, hw2⟩ : ∃ z, z = w1.setCells b 0 ((seg (byteOf u) 0 32).map (Value.int .u8)) := ⟨_, rfl⟩
  obtain ⟨q1, q2, q3⟩ := sum_stored H1.out (by rw [hu]; exact sumB_size K F t) w2 hw2
  have hst : (Instr.storeAt 33 (.pointer (some ⟨b, 0, none⟩)) (.agg (digestA (sumS K F t)))).run Tryz.prog w1 = .ok () w2 := by
    rw [hw2, hu, ← digestA_list]
    exact run_storeAt_mid w1 b 0 33 (digestA (sumS K F t)) (fun j hj => by rw [digestA_size] at hj; rw [Nat.zero_add]; exact ⟨by rw [H1.out.cell j hj]; rfl, H1.out.free j⟩) hi0 (digestA_one _)
  have kc2 := run_convert_bytes_arg (P := Tryz.prog) (w := w2) 26 5 Tryz.underlying26 Tryz.underlying5 b 0 32 32 (numsOf u) ((numsOf_length u).trans q1.len) q1.nums 9 Tryz.underlying9
  rw [strOf_numsOf] at kc2
  obtain ⟨D, hD⟩ : ∃ D, D = digestA (sumS K F t) := ⟨_, rfl⟩
  rw [← hD] at hst ⊢
  have HST := aside hst
  have HF : Aside (NextPost K F b t w (.returned (.string u)) w2) := by
    rw [Aside, NextPost, hu]
    rw [hu] at q1
    exact ⟨rfl, (keeps_of_new HB.out _).trans q2, q1, fun j hj => (q3 j hj).trans (HB.out.cell (p := ⟨b, j, none⟩) H.out.lt)⟩
  clear hst hw2 hD q1 q2 q3 hb kc hi0 hu
  go_wp2_with (first | (refine wpList_store_by rfl 33 _ _ rfl _ _ rfl rfl HST.out ?_) | fail)
  go_ret
  rw [← HTT.out]
  exact HF.out
end Go.Proofs.YtkpmcjfolncmmaaGreatDoor
namespace Go.Proofs.YtkpmcjfolncmmaaGreatDoor
open Go.RowKit
structure LogAt (w : World) (b : Nat) (t s : ByteArray) (n : Int) : Prop where
  sum : SumAt w b s
  text : w.cell? ⟨b, 32, none⟩ = some (.string t)
  many : w.cell? ⟨b, 33, none⟩ = some (.int .i64 n)
theorem LogAt.on {w w' : World} {b : Nat} {t s : ByteArray} {n : Int} (h : LogAt w b t s n) (hb : Below w.heap.size w w') : LogAt w' b t s n :=
  ⟨h.sum.on hb, (hb.cell (p := ⟨b, 32, none⟩) h.sum.lt).trans h.text, (hb.cell (p := ⟨b, 33, none⟩) h.sum.lt).trans h.many⟩
theorem LogAt.keeps {K : Nat → Prop} {w w' : World} {b : Nat} {t s : ByteArray} {n : Int} (h : LogAt w b t s n) (hk : Keeps K w w') (hK : K b) : LogAt w' b t s n :=
  ⟨h.sum.keeps hk hK, cell_keeps h.text hk hK, cell_keeps h.many hk hK⟩
theorem LogAt.sums {w w' : World} {b : Nat} {t s s' : ByteArray} {n : Int} (h : LogAt w b t s n) (hs : SumAt w' b s') (ho : ∀ j, 32 ≤ j → w'.cell? ⟨b, j, none⟩ = w.cell? ⟨b, j, none⟩) : LogAt w' b t s' n :=
  ⟨hs, (ho 32 (by omega)).trans h.text, (ho 33 (by omega)).trans h.many⟩
theorem LogAt.setText {w : World} {b : Nat} {t s : ByteArray} {n : Int} (h : LogAt w b t s n) (t' : ByteArray) : LogAt (w.setCell ⟨b, 32, none⟩ (.string t')) b t' s n :=
  ⟨⟨h.sum.len, fun j hj => by rw [World.cell?_setCell_other _ _ _ _ (by simp <;> omega)]; exact h.sum.cell j hj, fun j => by rw [World.frozen?_setCell]; exact h.sum.free j⟩,
    World.cell?_setCell_same _ _ _ h.text, by rw [World.cell?_setCell_other _ _ _ _ (by simp)]; exact h.many⟩
theorem LogAt.setMany {w : World} {b : Nat} {t s : ByteArray} {n : Int} (h : LogAt w b t s n) (n' : Int) : LogAt (w.setCell ⟨b, 33, none⟩ (.int .i64 n')) b t s n' :=
  ⟨⟨h.sum.len, fun j hj => by rw [World.cell?_setCell_other _ _ _ _ (by simp <;> omega)]; exact h.sum.cell j hj, fun j => by rw [World.frozen?_setCell]; exact h.sum.free j⟩,
    by rw [World.cell?_setCell_other _ _ _ _ (by simp)]; exact h.text, World.cell?_setCell_same _ _ _ h.many⟩
def zero32 : ByteArray := strOfNums (List.replicate 32 0)
theorem zero32_size : zero32.size = 32 := by rw [zero32, strOf_size]; rfl
theorem zero32_byte (j : Nat) : byteOf zero32 j = 0 := by
  rw [zero32, byteOf_strOf _ (fun x hx => by rw [(List.mem_replicate.1 hx).2]; omega)]
  exact rep_getD 32 j
set_option maxHeartbeats 1000000 in
theorem new_log (w : World) : Calls Tryz.prog 16 #[] w fun e w' => e = .returned (.pointer (some ⟨w.heap.size, 0, none⟩)) ∧ Below w.heap.size w w' ∧ LogAt w' w.heap.size ⟨#[]⟩ zero32 0 := by
  go_enter Tryz.func16, Tryz.ntmps16
  go_wp2_with fail
  go_ret
  refine ⟨rfl, new_alloc _ _, ⟨⟨zero32_size, fun j hj => ?_, fun j => frozen_new _ _ _ j⟩, cell_new _ _ _ 32, cell_new _ _ _ 33⟩⟩
  rw [cell_new, zero32_byte]
  match j, hj with
  | 0, _ | 1, _ | 2, _ | 3, _ | 4, _ | 5, _ | 6, _ | 7, _ | 8, _ | 9, _ | 10, _ | 11, _ | 12, _ | 13, _ | 14, _ | 15, _ | 16, _ | 17, _ | 18, _ | 19, _ | 20, _ | 21, _ | 22, _ | 23, _ | 24, _ | 25, _ | 26, _ | 27, _ | 28, _ | 29, _ | 30, _ | 31, _ => rfl
  | _ + 32, h => omega
set_option maxHeartbeats 1000000 in
theorem text_log (b : Nat) (t s : ByteArray) (n : Int) (w : World) (h : LogAt w b t s n) : Calls Tryz.prog 20 #[.pointer (some ⟨b, 0, none⟩)] w fun e w' => e = .returned (.string t) ∧ w = w' := by
  have c := h.text
  go_enter Tryz.func20, Tryz.ntmps20
  go_wp2_with fail
  go_ret
  exact ⟨rfl, rfl⟩
def entryF (S : ByteArray → ByteArray) (s : ByteArray) (d : RecD) : ByteArray := strOfNums (be 2 (bytesF d).size) ++ bytesF d ++ S (s ++ bytesF d)
def AddPost (S : ByteArray → ByteArray) (b : Nat) (t s : ByteArray) (n : Int) (d : RecD) (w : World) (e : Ending) (w' : World) : Prop :=
  Keeps (· ≠ b) w w' ∧ if mayB d = true then e = .returned (.int .i64 0) ∧ LogAt w' b (t ++ entryF S s d) (S (s ++ bytesF d)) (n + 1) else e = .returned (.int .i64 15) ∧ LogAt w' b t s n
theorem bytesF_size {d : RecD} (hm : mayB d = true) (ho : d.ok) : 0 < (bytesF d).size ∧ (bytesF d).size ≤ 151 := by
  have := bytes_bs hm ho
  have hz : (bytesF d).size = (bytesL d).length := strOf_size _
  omega
theorem putText_fits (t s : ByteArray) (hs : s.size ≤ 65535) : putTextF t s = (t ++ (strOfNums (be 2 s.size) ++ s), 0) := by
  have := putF_fits t s.size 2 (by omega) (by omega) (by omega) (by simp; omega)
  rw [show ((2 : Nat) : Int) = 2 from rfl] at this
  rw [putTextF, this]
  rw [if_pos rfl, ByteArray.append_assoc]
set_option maxHeartbeats 2000000 in
set_option maxRecDepth 100000 in
theorem add_log (b : Nat) (t s : ByteArray) (n : Int) (hn : 0 ≤ n ∧ n ≤ 1099511627776) (hts : t.size ≤ 1000000000) (rv : RecV) (d : RecD) (ho : d.ok) (F : S8) (K : Nat → Int) (kk : Array Value) (w : World) (ht : ShaTabs F K kk w) (h : LogAt w b t s n) (hr : RecAt w rv d) :
    Calls Tryz.prog 39 #[.pointer (some ⟨b, 0, none⟩), .agg (recCells rv)] w (AddPost (sumB K F) b t s n d w) := by
  have hi0 : (Tryz.prog.info? 38).map (·.size) = some (recCells rv).size := by rw [recCells_size]; kernel_rfl
  obtain ⟨L, hL⟩ : ∃ x, x = w.heap.size := ⟨_, rfl⟩
  obtain ⟨w0, hw0⟩ : ∃ z, z = w.alloc (.cells (recCells rv) 38) := ⟨_, rfl⟩
  have HN0 : Aside (Below w.heap.size w w0) := by rw [hw0]; exact new_alloc _ _
  have HR0 : Aside (RecIn w0 L rv) := by rw [hw0, hL]; exact RecIn.box _ _
  have H := aside h
  have HO := aside ho
  have HT := aside ht
  have HR := aside hr
  clear h ho ht hr
  go_enter Tryz.func39, Tryz.ntmps39
  go_upto_region 1 with fail
  rw [← hw0, ← hL]
  clear hw0 hL
  go_wp2_with (first | (refine wpList_load_row rfl _ _ rfl L rfl _ (recCells rv) (0, 0) _ HR0.out Tryz.underlying38 rfl hi0 ?_) | fail)
  refine (bytes_any rv d HO.out w0 (HR.out.on HN0.out)).mono ?_
  rintro e w1 ⟨rfl, hb⟩
  have HN1 := aside (HN0.out.trans (hb.mono HN0.out.size))
  have H1 := aside (H.out.on HN1.out)
  have HT1 := aside (HT.out.on HN1.out)
  clear hb hi0 HR0 HN0
  by_cases hm : mayB d = true
  · have hba : bytesA d = (bytesF d, 0) := by rw [bytesA, if_pos hm]
    have hsz := bytesF_size hm HO.out
    obtain ⟨x, hx⟩ : ∃ x, x = bytesF d := ⟨_, rfl⟩
    rw [← hx] at hsz hba
    rw [hba]
    have HX := aside hx
    have HP : Aside (∀ e w', Keeps (· ≠ b) w w' → e = .returned (.int .i64 0) → LogAt w' b (t ++ (strOfNums (be 2 x.size) ++ x) ++ sumB K F (s ++ x)) (sumB K F (s ++ x)) (n + 1) → AddPost (sumB K F) b t s n d w e w') := by
      intro e w' hk he hl
      refine ⟨hk, ?_⟩
      rw [if_pos hm]
      refine ⟨he, ?_⟩
      rw [entryF, ← hx, ← ByteArray.append_assoc]
      exact hl
    have c32 := H1.out.text
    clear hx hba hm
    go_wp2_with fail
    refine (putText_any t x (by omega) (by omega) w1).mono ?_
    rintro e w2 ⟨rfl, hb2⟩
    rw [putText_fits t x (by omega)]
    have HN2 := aside (HN1.out.trans (hb2.mono HN1.out.size))
    have H2 := aside (H1.out.on hb2)
    have HT2 := aside (HT1.out.on hb2)
    obtain ⟨t2, ht2⟩ : ∃ t2, t2 = t ++ (strOfNums (be 2 x.size) ++ x) := ⟨_, rfl⟩
    have hs2 : t2.size ≤ 1000000200 := by rw [ht2, ByteArray.size_append, ByteArray.size_append, strOf_size, be_length]; omega
    have HT2X := aside ht2
    rw [← ht2]
    clear hb2 c32 ht2 H1 HT1
    go_wp2_with fail
    refine (next_any b s x (by omega) F K kk w2 HT2.out H2.out.sum).mono ?_
    rintro e w3 ⟨rfl, hk3, hs3, ho3⟩
    have H3 := aside (H2.out.sums hs3 ho3)
    have HK3 := aside ((keeps_of_new HN2.out (· ≠ b)).trans hk3)
    obtain ⟨u, hu⟩ : ∃ u, u = sumB K F (s ++ x) := ⟨_, rfl⟩
    have hus : u.size = 32 := by rw [hu]; exact sumB_size _ _ _
    rw [← hu] at H3 ⊢
    have HU := aside hu
    have hnb : ¬ 9223372036854775807 < t2.size + u.size := by omega
    have c32 := H3.out.text
    have c33 := H3.out.many
    have f32 := H3.out.sum.free 32
    have f33 := H3.out.sum.free 33
    have HF := aside ((H3.out.setText (t2 ++ u)).setMany (n + 1))
    have HKF := aside ((HK3.out.setCell (p := ⟨b, 32, none⟩) (.inr (fun h => h rfl)) (.string (t2 ++ u))).setCell (p := ⟨b, 33, none⟩) (.inr (fun h => h rfl)) (.int .i64 (n + 1)))
    clear hk3 hs3 ho3 hu H2 HT2 H3 HK3
    go_wp2_with fail
    go_ret
    refine HP.out _ _ HKF.out rfl ?_
    rw [← HT2X.out, ← HU.out]
    exact HF.out
  · have hba : bytesA d = (⟨#[]⟩, 15) := by rw [bytesA, if_neg hm]
    rw [hba]
    have HP : Aside (∀ e w', Keeps (· ≠ b) w w' → e = .returned (.int .i64 15) → LogAt w' b t s n → AddPost (sumB K F) b t s n d w e w') := by
      intro e w' hk he hl
      refine ⟨hk, ?_⟩
      rw [if_neg hm]
      exact ⟨he, hl⟩
    clear hba hm
    go_wp2_with fail
    go_ret
    exact HP.out _ _ (keeps_of_new HN1.out _) rfl H1.out
end Go.Proofs.YtkpmcjfolncmmaaGreatDoor
namespace Go.Proofs.YtkpmcjfolncmmaaGreatDoor
open Go.RowKit
theorem RecIn.setRow {w : World} {X : Nat} {r : RecV} (h : RecIn w X r) (r' : RecV) : RecIn (w.setRow X (recCells r')) X r' := setRow_heap w X _ _ _ _ h
theorem keeps_setRow {K : Nat → Prop} (w : World) (X : Nat) (cs : Array Value) (hX : ¬ K X) : Keeps K w (w.setRow X cs) :=
  ⟨rfl, rfl, rfl, by simp, fun k _ hK => setRow_other w X k cs (fun e => hX (e ▸ hK))⟩
structure RdAt (w : World) (X E : Nat) (r : RecV) (c : Int) : Prop where
  record : RecIn w X r
  code : w.cell? ⟨E, 0, none⟩ = some (.int .i64 c)
  free : w.frozen? ⟨E, 0, none⟩ = false
  ne : X ≠ E
theorem RdAt.lt {w : World} {X E : Nat} {r : RecV} {c : Int} (h : RdAt w X E r c) : X < w.heap.size ∧ E < w.heap.size := ⟨h.record.lt, cell_lt h.code⟩
theorem RdAt.keeps {K : Nat → Prop} {w w' : World} {X E : Nat} {r : RecV} {c : Int} (h : RdAt w X E r c) (hk : Keeps K w w') (hX : K X) (hE : K E) : RdAt w' X E r c :=
  ⟨h.record.keeps hk hX, cell_keeps h.code hk hE, (World.frozen?_of_block (w := w) (a := ⟨E, 0, none⟩) (hk.block E h.lt.2 hE)).trans h.free, h.ne⟩
theorem RdAt.on {w w' : World} {X E : Nat} {r : RecV} {c : Int} (h : RdAt w X E r c) (hb : Below w.heap.size w w') : RdAt w' X E r c := h.keeps (keeps_of_new hb (fun _ => True)) trivial trivial
theorem RdAt.lay {w : World} {X E : Nat} {r : RecV} {c : Int} (h : RdAt w X E r c) (r' : RecV) (c' : Int) : RdAt ((w.setRow X (recCells r')).setCell ⟨E, 0, none⟩ (.int .i64 c')) X E r' c' := by
  have hne := h.ne
  have hE : (w.setRow X (recCells r')).cell? ⟨E, 0, none⟩ = some (.int .i64 c) := cell_keeps h.code (keeps_setRow (K := (· ≠ X)) w X (recCells r') (fun h => h rfl)) (Ne.symm hne)
  refine ⟨(h.record.setRow r').other hne _, World.cell?_setCell_same _ _ _ hE, ?_, hne⟩
  rw [World.frozen?_setCell]
  exact (World.frozen?_of_block (w := w) (a := ⟨E, 0, none⟩) (setRow_other w X E _ (Ne.symm hne))).trans h.free
theorem rd_keeps (w : World) (X E : Nat) (cs : Array Value) (v : Value) : Keeps (fun k => k ≠ X ∧ k ≠ E) w ((w.setRow X cs).setCell ⟨E, 0, none⟩ v) :=
  (keeps_setRow w X cs (fun h => h.1 rfl)).setCell (p := ⟨E, 0, none⟩) (.inr (fun h => h.2 rfl)) v
theorem rd_results {w : World} {X E : Nat} {r : RecV} {c : Int} (h : RdAt w X E r c) (tmps : Array Value) (h2 : tmps.getD 2 undef = .pointer (some ⟨X, 0, none⟩)) (h3 : tmps.getD 3 undef = .pointer (some ⟨E, 0, none⟩)) :
    (results Tryz.f8 tmps).run Tryz.prog w = .ok (.tuple #[.agg (recCells r), .int .i64 c]) w := by
  have h2' : tmps[2]?.getD undef = .pointer (some ⟨X, 0, none⟩) := by simpa using h2
  have h3' : tmps[3]?.getD undef = .pointer (some ⟨E, 0, none⟩) := by simpa using h3
  have hl := run_loadVar_row (P := Tryz.prog) w X 38 38 (recCells r) (0, 0) _ h.record Tryz.underlying38 rfl (by rw [recCells_size]; kernel_rfl)
  have hl2 : (loadVar 41 ⟨E, 0, none⟩).run Tryz.prog w = .ok (.int .i64 c) w := by
    have ag := Tryz.isAgg41
    simp [loadVar, ag, h.code]
  simp [results, Tryz.results8, asAddr, h2', h3', hl, hl2]
def RCatch (u' : FrameMode) (X E : Nat) (r : RecV) (c : Int) (w : World) (e : Ending) (v : FrameMode) (w' : World) : Prop :=
  e = .returned (.tuple #[]) ∧ v = u' ∧ RdAt w' X E r c ∧ Keeps (fun k => k ≠ X ∧ k ≠ E) w w'
theorem rcatch_pan (X E : Nat) (r : RecV) (c : Int) (u : TypeId) (pv : Value) (older : List PanicEntry) (w : World) (h : RdAt w X E r c) :
    CallsD Tryz.prog 26 #[.pointer (some ⟨X, 0, none⟩), .pointer (some ⟨E, 0, none⟩)] (.panicking ({ v := .iface u pv, recovered := false } :: older)) w (RCatch (.panicking ({ v := .iface u pv, recovered := true } :: older)) X E {} 14 w) := by
  have hone : (recCells {}).all (·.oneCell') = true := by kernel_rfl
  have hi0 : (Tryz.prog.info? 38).map (·.size) = some (recCells {}).size := by rw [recCells_size]; kernel_rfl
  have HF := h.lay {} 14
  have HK := rd_keeps w X E (recCells {}) (.int .i64 14)
  have cE : (w.setRow X (recCells {})).cell? ⟨E, 0, none⟩ = some (.int .i64 c) := cell_keeps h.code (keeps_setRow (K := (· ≠ X)) w X (recCells {}) (fun h => h rfl)) (Ne.symm h.ne)
  have fE : (w.setRow X (recCells {})).frozen? ⟨E, 0, none⟩ = false := (World.frozen?_of_block (w := w) (a := ⟨E, 0, none⟩) (setRow_other w X E _ (Ne.symm h.ne))).trans h.free
  have HX := aside h.record
  refine callsD_of_wpS Tryz.func26 rfl fun c₀ cs hu => ?_
  apply wpS_seq
  apply wpS_region
  simp [wpOpsS, go_sem, recoverD, hu, Tryz.ntmps26, Exit.thenS]
  have et : (#[Value.pointer (some { block := X, off := 0 }), Value.pointer (some { block := E, off := 0 })] ++ ((Array.replicate 5 undef).setIfInBounds 1 (Value.iface u pv)).setIfInBounds 0 (Value.iface u pv) : Array Value) = #[.pointer (some ⟨X, 0, none⟩), .pointer (some ⟨E, 0, none⟩), .iface u pv, .iface u pv, undef, undef, undef] := rfl
  rw [et]
  clear et
  refine wpS_of_wp ?_
  obtain ⟨w1, hw1⟩ : ∃ z, z = w.setRow X (recCells {}) := ⟨_, rfl⟩
  rw [← hw1] at HF HK cE fE
  have HF := aside HF
  have HK := aside HK
  have HW1 := aside hw1
  clear h hw1
  go_wp2_with (first
    | (refine wpList_store_row rfl _ _ _ rfl X (recCells {}) rfl rfl 38 _ HX.out hi0 rfl hone ?_; rw [← HW1.out])
    | fail)
  simp [bodyPostS, results, Tryz.results26]
  exact ⟨rfl, rfl, HF.out, HK.out⟩
theorem rcatch_idle (X E : Nat) (r : RecV) (c : Int) (w : World) (h : RdAt w X E r c) :
    CallsD Tryz.prog 26 #[.pointer (some ⟨X, 0, none⟩), .pointer (some ⟨E, 0, none⟩)] .returning w (RCatch .returning X E r c w) := by
  have HF : Aside (RCatch .returning X E r c w (.returned (.tuple #[])) .returning w) := ⟨rfl, rfl, h, Keeps.refl _ _⟩
  refine callsD_of_wpS Tryz.func26 rfl fun c₀ cs hu => ?_
  apply wpS_seq
  apply wpS_region
  simp [wpOpsS, go_sem, recoverD, hu, Tryz.ntmps26, Exit.thenS]
  apply wpS_seq
  apply wpS_region
  simp [wpOpsS, go_sem, Exit.thenS]
  refine wpS_cond (t := false) (by simp [Act.eval, Array.replicate]) ?_
  simp only [Bool.false_eq_true, if_false]
  refine wpS_of_wp (wp_skip ?_)
  cases c₀
  simp_all [bodyPostS, results, Tryz.results26]
  exact HF.out
end Go.Proofs.YtkpmcjfolncmmaaGreatDoor
namespace Go.Proofs.YtkpmcjfolncmmaaGreatDoor
open Go.RowKit
def ReadPost (a : RecD × Int) (w : World) (e : Ending) (w' : World) : Prop :=
  ∃ rv, e = .returned (.tuple #[.agg (recCells rv), .int .i64 a.2]) ∧ RecFrom w.heap.size w' rv a.1 ∧ Below w.heap.size w w'
theorem rd_below {w w1 w2 : World} {X E : Nat} (h : Below w.heap.size w w1) (hk : Keeps (fun k => k ≠ X ∧ k ≠ E) w1 w2) (hx : w.heap.size ≤ X ∧ w.heap.size ≤ E) : Below w.heap.size w w2 :=
  h.trans ((hk.mono (K' := (· < w.heap.size)) (fun k _ h => by have h' : k < w.heap.size := h; omega)).below h.size)
set_option maxHeartbeats 2000000 in
set_option maxRecDepth 100000 in
theorem read_empty (t : ByteArray) (hts : t.size ≤ 9223372036854775807) (ht0 : t.size = 0) (a : RecD × Int) (ha : a = ({}, 14)) (w : World) : Calls Tryz.prog 8 #[.string t] w (ReadPost a w) := by
  have HE := aside ha
  have HT0 := aside ht0
  clear ht0 ha
  have hmf : ∀ (fn : Fn) (first cap : Array Value) (w : World), (Instr.makeFunc fn first cap).run Tryz.prog w = .ok (.func fn first cap) w := fun _ _ _ _ => rfl
  obtain ⟨X, hX⟩ : ∃ x, x = w.heap.size := ⟨_, rfl⟩
  obtain ⟨E, hE⟩ : ∃ x, x = w.heap.size + 1 := ⟨_, rfl⟩
  obtain ⟨w2, hw2⟩ : ∃ z, z = (w.alloc (.cells (recCells {}) 38)).alloc (.cells #[.int .i64 0] 41) := ⟨_, rfl⟩
  have H2 : RdAt w2 X E {} 0 := by
    rw [hw2, hX, hE]
    have hn := new_alloc (w.alloc (.cells (recCells {}) 38)) (.cells #[.int .i64 0] 41)
    have hs : (w.alloc (.cells (recCells {}) 38)).heap.size = w.heap.size + 1 := by simp
    have c := cell_new (w.alloc (.cells (recCells {}) 38)) #[.int .i64 0] 41 0
    have f := frozen_new (w.alloc (.cells (recCells {}) 38)) #[.int .i64 0] 41 0
    rw [hs] at c f
    exact ⟨(RecIn.box w {}).new hn, c, f, by omega⟩
  have HN2 : Aside (Below w.heap.size w w2) := by rw [hw2]; exact new_trans (new_alloc _ _) (new_alloc _ _)
  have H2 := aside H2
  have HXE : Aside (w.heap.size ≤ X ∧ w.heap.size ≤ E) := ⟨by omega, by omega⟩
  have HTS := aside hts
  clear hts
  go_enter_defers Tryz.func8, Tryz.ntmps8
  go_wp2_with fail
  rw [zR, ← hw2, ← hE, ← hX]
  clear hw2 hX hE
  refine (read_any t w2).mono ?_
  rintro e w3 ⟨rfl, hb3, ho3⟩
  obtain ⟨b, hb⟩ : ∃ b, b = w2.heap.size := ⟨_, rfl⟩
  rw [← hb] at ho3 ⊢
  obtain ⟨g, hg⟩ : ∃ g, g = b + 1 := ⟨_, rfl⟩
  rw [← hg] at ho3
  have hXb : X ≠ b ∧ E ≠ b := by have := H2.out.lt; omega
  have HXb := aside hXb
  have HBW : Aside (w.heap.size ≤ b) := by have := HN2.out.size; rw [Aside]; omega
  have H3 := aside (H2.out.on hb3)
  have HN3 := aside (HN2.out.trans (hb3.mono HN2.out.size))
  have HO3 := aside ho3
  clear hb3 ho3 hb hg H2 HN2 hXb
  go_upto_region 3 with fail
  obtain ⟨R, hR⟩ : ∃ x, x = w3.heap.size := ⟨_, rfl⟩
  obtain ⟨w4, hw4⟩ : ∃ z, z = w3.alloc (.cells #[.pointer (some ⟨b, 0, none⟩)] 75) := ⟨_, rfl⟩
  have hb4 : Below w3.heap.size w3 w4 := by rw [hw4]; exact new_alloc _ _
  have HRC : Aside (w4.cell? ⟨R, 0, none⟩ = some (.pointer (some ⟨b, 0, none⟩))) := by rw [hw4, hR]; exact cell_new _ _ _ 0
  have HRb : Aside (R ≠ b) := by have := HO3.out.bound; rw [Aside]; omega
  have HRX : Aside (R ≠ X) := by have := H3.out.lt; rw [Aside]; omega
  have H4 := aside (H3.out.on hb4)
  have HN4 := aside (HN3.out.trans (hb4.mono HN3.out.size))
  have HO4 := aside (HO3.out.on hb4)
  rw [← hw4, ← hR]
  clear hb4 hw4 hR H3 HN3 HO3
  have cR := HRC.out
  go_wp2_with fail
  refine (csmall_no b g t HTS.out 0 (by omega) (by have := HT0.out; omega) w4 HO4.out).mono ?_
  rintro e w5 ⟨rfl, hk⟩
  have HQ := aside (H4.out.keeps hk HXb.out.1 HXb.out.2)
  have HNQ := aside (new_of_keeps HN4.out hk HBW.out)
  unfold gaveUp
  clear hk cR
  go_wp2_with fail
  refine leaves_cons (f := 26) (args := #[.pointer (some ⟨X, 0, none⟩), .pointer (some ⟨E, 0, none⟩)]) (by simp) (by simp [go_sem]) ?_
  refine (rcatch_pan X E _ _ 147 (.agg #[]) [] _ HQ.out).mono ?_
  rintro e u' w'' ⟨rfl, rfl, h1, h2⟩
  refine ⟨_, rd_results h1 _ rfl rfl, ?_⟩
  rw [HE.out]
  exact ⟨_, rfl, RecFrom.nil _ _, rd_below HNQ.out h2 HXE.out⟩
end Go.Proofs.YtkpmcjfolncmmaaGreatDoor
