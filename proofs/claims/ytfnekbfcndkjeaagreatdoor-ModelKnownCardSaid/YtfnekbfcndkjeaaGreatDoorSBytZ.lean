/- chain.Bytes, walked: of all records. -/
import Derived.Test.YtfnekbfcndkjeaaGreatDoorSMayK1
import Derived.Test.YtfnekbfcndkjeaaGreatDoorSMayK2
import Derived.Test.YtfnekbfcndkjeaaGreatDoorSMayK3
import Derived.Test.YtfnekbfcndkjeaaGreatDoorSMayK4
import Derived.Test.YtfnekbfcndkjeaaGreatDoorSMayK5
import Derived.Test.YtfnekbfcndkjeaaGreatDoorSMayK6
import Derived.Test.YtfnekbfcndkjeaaGreatDoorSPln5
set_option linter.all false
namespace Go.Proofs.YtfnekbfcndkjeaaGreatDoor
open Go.RowKit
set_option maxHeartbeats 2000000 in
set_option maxRecDepth 100000 in
theorem may_none (rv : RecV) (d : RecD) (hk : ¬ (1 ≤ d.kind ∧ d.kind ≤ 6)) (w : World) (h : RecAt w rv d) :
    Calls Tryz.prog 64 #[.agg (recCells rv)] w fun e w' => e = .returned (.bool (mayB d)) ∧ Below w.heap.size w w' := by
  obtain ⟨b, l, o, rfl, hb, hl, hw⟩ := h
  have HM : Aside (mayB d = false) := by
    rw [Aside, mayB, rightB, if_neg (by omega), if_neg (by omega), if_neg (by omega), if_neg (by omega), if_neg (by omega), if_neg (by omega)]
    rfl
  obtain ⟨L, hL⟩ : ∃ x, x = w.heap.size := ⟨_, rfl⟩
  obtain ⟨w0, hw0⟩ : ∃ z, z = w.alloc (.cells (recCells (d.toV b l o)) 49) := ⟨_, rfl⟩
  have HN0 : Aside (Below w.heap.size w w0) := by rw [hw0]; exact new_alloc _ _
  have HR0 : Aside (RecIn w0 L (d.toV b l o)) := by rw [hw0, hL]; exact RecIn.box _ _
  obtain ⟨k, hkk⟩ : ∃ k, k = d.kind := ⟨_, rfl⟩
  rw [← hkk] at hk
  have HKK := aside hkk
  have e1 : (k == 1) = false := by simp; omega
  have e2 : (k == 2) = false := by simp; omega
  have e3 : (k == 3) = false := by simp; omega
  have e4 : (k == 4) = false := by simp; omega
  have e5 : (k == 5) = false := by simp; omega
  have e6 : (k == 6) = false := by simp; omega
  clear hb hl hw hk hkk
  go_enter Tryz.func64, Tryz.ntmps64
  go_upto_region 1 with fail
  rw [← hw0, ← hL]
  clear hw0 hL
  go_cut [3] (fun s3 wx => wx = w0)
  case first =>
    have c4 : w0.cell? ⟨L, 4, none⟩ = some (.int .i64 d.tick) := HR0.out.tick
    have c1 : w0.cell? ⟨L, 1, none⟩ = some (.int .i64 d.round) := HR0.out.round
    by_cases h1 : 0 ≤ d.tick
    · go_wp2_with fail
      refine (within_any d.round 0 15 _).mono ?_
      rintro e w1 ⟨rfl, rfl⟩
      go_wp2_with fail
      go_meet
      case rel => exact rfl
    · go_wp2_with fail
      go_meet
      case rel => exact rfl
  case rest =>
    obtain rfl := hcut
    have c0 : wc.cell? ⟨L, 0, none⟩ = some (.int .i64 k) := by rw [HKK.out]; exact HR0.out.kind
    go_wp2_with fail
    go_ret
    exact ⟨by rw [HM.out]; rfl, HN0.out⟩
theorem may_any (rv : RecV) (d : RecD) (ho : d.ok) (w : World) (h : RecAt w rv d) :
    Calls Tryz.prog 64 #[.agg (recCells rv)] w fun e w' => e = .returned (.bool (mayB d)) ∧ Below w.heap.size w w' := by
  by_cases hk : 1 ≤ d.kind ∧ d.kind ≤ 6
  · have h6 : d.kind = 1 ∨ d.kind = 2 ∨ d.kind = 3 ∨ d.kind = 4 ∨ d.kind = 5 ∨ d.kind = 6 := by omega
    rcases h6 with e | e | e | e | e | e
    · exact may_k1 rv d ho e w h
    · exact may_k2 rv d ho e w h
    · exact may_k3 rv d ho e w h
    · exact may_k4 rv d ho e w h
    · exact may_k5 rv d ho e w h
    · exact may_k6 rv d ho e w h
  · exact may_none rv d hk w h
end Go.Proofs.YtfnekbfcndkjeaaGreatDoor
namespace Go.Proofs.YtfnekbfcndkjeaaGreatDoor
open Go.RowKit
structure BS (L b g : Nat) (rv : RecV) (l : List Int) (w wx : World) : Prop where
  record : RecIn wx L rv
  wr : WAt b (strOfNums l) wx
  box : wx.cell? ⟨g, 0, none⟩ = some (.pointer (some ⟨b, 0, none⟩))
  new : Below w.heap.size w wx
  hL : L < b
  hg : b < g
  hw : w.heap.size ≤ L
theorem BS.bound {L b g : Nat} {rv : RecV} {l : List Int} {w wx : World} (h : BS L b g rv l w wx) : b < wx.heap.size := cell_lt h.wr.cell
theorem BS.step {L b g : Nat} {rv : RecV} {l l' : List Int} {w wx w' : World} {t : ByteArray} (h : BS L b g rv l w wx) (hk : Keeps (· ≠ b) wx w') (ha : WAt b t w') (ht : t = strOfNums l') : BS L b g rv l' w w' := by
  have h1 := h.hL
  have h2 := h.hg
  have h3 := h.hw
  have h4 := h.bound
  exact ⟨h.record.keeps hk (by omega), by rw [← ht]; exact ha, cell_keeps h.box hk (by omega), new_of_keeps h.new hk (by omega), h1, h2, h3⟩
theorem BS.on {L b g : Nat} {rv : RecV} {l : List Int} {w wx w' : World} (h : BS L b g rv l w wx) (hb : Below wx.heap.size wx w') : BS L b g rv l w w' :=
  ⟨h.record.new hb, h.wr.on hb, (hb.cell (cell_lt h.box)).trans h.box, h.new.trans (hb.mono h.new.size), h.hL, h.hg, h.hw⟩
theorem BS.rowI {L b g : Nat} {rv : RecV} {l : List Int} {w wx : World} (h : BS L b g rv l w wx) {v : Value} {xs : List Int} (hr : RowI w v xs) :
    ∃ a cap, v = .slice a xs.length cap ∧ (0 < xs.length → ∃ lb lo, a = some ⟨lb, lo, none⟩ ∧ lb ≠ b ∧ ∀ j, j < xs.length → wx.cell? ⟨lb, lo + j, none⟩ = some (.int .i64 (xs.getD j 0))) := by
  obtain ⟨a, cap, e, _, hx⟩ := hr
  refine ⟨a, cap, e, fun h0 => ?_⟩
  obtain ⟨lb, lo, ea, hlb, hj⟩ := hx h0
  have h1 := h.hL
  have h3 := h.hw
  exact ⟨lb, lo, ea, by omega, fun j hjl => (h.new.cell (p := ⟨lb, lo + j, none⟩) hlb).trans (hj j hjl)⟩
theorem BS.rowL {L b g : Nat} {rv : RecV} {l : List Int} {w wx : World} (h : BS L b g rv l w wx) {v : Value} {xs : List (Int × Int)} (hr : RowL w v xs) :
    ∃ a cap, v = .slice a xs.length cap ∧ (0 < xs.length → ∃ lb lo, a = some ⟨lb, lo, none⟩ ∧ lb ≠ b ∧ ∀ j, j < xs.length → wx.cell? ⟨lb, lo + j * 2, none⟩ = some (.int .i64 (xs.getD j (0, 0)).1) ∧ wx.cell? ⟨lb, lo + j * 2 + 1, none⟩ = some (.int .i64 (xs.getD j (0, 0)).2)) := by
  obtain ⟨a, cap, e, _, hx⟩ := hr
  refine ⟨a, cap, e, fun h0 => ?_⟩
  obtain ⟨lb, lo, ea, hlb, hj⟩ := hx h0
  have h1 := h.hL
  have h3 := h.hw
  exact ⟨lb, lo, ea, by omega, fun j hjl => ⟨(h.new.cell (p := ⟨lb, lo + j * 2, none⟩) hlb).trans (hj j hjl).1, (h.new.cell (p := ⟨lb, lo + j * 2 + 1, none⟩) hlb).trans (hj j hjl).2⟩⟩
def BSPost (L b g : Nat) (rv : RecV) (l : List Int) (w : World) (e : Ending) (w' : World) : Prop := e = .returned (.tuple #[]) ∧ BS L b g rv l w w'
theorem bs_small {L b g : Nat} {rv : RecV} {l : List Int} {w wx : World} (h : BS L b g rv l w wx) (xs : List Int) (hb : Bs xs) (hl : l.length + 8 * xs.length ≤ 1099511627776) (arr : Array Value) (ha : arr = (xs.map (Value.int .i64)).toArray) (ty : TypeId) (n : Nat) (hn : xs.length = n) :
    Calls Tryz.prog 65 #[.pointer (some ⟨b, 0, none⟩), .slice (some ⟨wx.heap.size, 0, none⟩) n n] (wx.alloc (.cells arr ty)) (BSPost L b g rv (l ++ xs) w) := by
  subst hn ha
  have h1 := h.on (new_alloc wx (.cells (xs.map (Value.int .i64)).toArray ty))
  refine (small_any b (strOfNums l) xs (by rw [strOf_size]; exact hl) (some ⟨wx.heap.size, 0, none⟩) xs.length _ h1.wr (fun _ => ⟨_, _, rfl, Nat.ne_of_gt h.bound, fun j hj => ?_⟩)).mono ?_
  · rw [Nat.zero_add, cell_new, List.getElem?_toArray, List.getElem?_map, List.getElem?_eq_getElem hj, List.getD_eq_getElem?_getD, List.getElem?_eq_getElem hj]
    rfl
  · rintro e w1 ⟨rfl, hk, hw⟩
    exact ⟨rfl, h1.step hk hw (by rw [smallF_fits xs hb, strOf_append])⟩
theorem bs_num {L b g : Nat} {rv : RecV} {l : List Int} {w wx : World} (h : BS L b g rv l w wx) (v : Int) (hv : 0 ≤ v ∧ v ≤ 18446744073709551615) (hl : l.length ≤ 1099511627776) :
    Calls Tryz.prog 68 #[.pointer (some ⟨b, 0, none⟩), .int .u64 v, .int .i64 8] wx (BSPost L b g rv (l ++ be 8 v) w) := by
  refine (num_any b (strOfNums l) (by rw [strOf_size]; exact hl) v 8 hv wx h.wr).mono ?_
  rintro e w1 ⟨rfl, hk, hw⟩
  refine ⟨rfl, h.step hk hw ?_⟩
  have := putF_fits (strOfNums l) v 8 (by omega) (by omega) hv.1 (eight v hv)
  rw [show ((8 : Nat) : Int) = 8 from rfl] at this
  rw [this, strOf_append]
theorem rowI_fits (t : ByteArray) (xs : List Int) (hn : xs.length ≤ 255) (hb : Bs xs) : rowI t xs.length xs = t ++ strOfNums (rowIL xs) := by
  have gen : ∀ (xs : List Int), Bs xs → ∀ t : ByteArray, xs.foldl (fun t x => smallF t [x]) t = t ++ strOfNums xs := by
    intro xs
    induction xs with
    | nil => intro _ t; rw [strOf_nil, ba_append_nil]; rfl
    | cons x xs ih =>
      intro hb t
      rw [List.foldl_cons, ih (fun y hy => hb y (by simp [hy])), smallF_fits [x] (fun y hy => hb y (by simp at hy; simp [hy])), ByteArray.append_assoc, ← strOf_append]
      rfl
  rw [rowI, smallF_fits [(xs.length : Int)] (Bs.cons (by omega) Bs.nil), gen xs hb, ByteArray.append_assoc, ← strOf_append]
  rfl
theorem lotF_fits (t : ByteArray) (x y : Int) (hx : 0 ≤ x ∧ x ≤ 255) (hy : 0 ≤ y ∧ y < 4294967296) : lotF t x y = t ++ strOfNums (x :: be 4 y) := by
  have := putF_fits (smallF t [x]) (y % 18446744073709551616) 4 (by omega) (by omega) (by omega) (by simp; omega)
  rw [show ((4 : Nat) : Int) = 4 from rfl] at this
  rw [lotF, this, smallF_fits [x] (Bs.cons hx Bs.nil), ByteArray.append_assoc, ← strOf_append, show y % 18446744073709551616 = y by omega]
  rfl
theorem rowL_fits (t : ByteArray) (xs : List (Int × Int)) (hn : xs.length ≤ 255) (hx : ∀ x ∈ xs, (0 ≤ x.1 ∧ x.1 ≤ 255) ∧ 0 ≤ x.2 ∧ x.2 < 4294967296) : rowL t xs.length xs = t ++ strOfNums (rowLL xs) := by
  have gen : ∀ (xs : List (Int × Int)), (∀ x ∈ xs, (0 ≤ x.1 ∧ x.1 ≤ 255) ∧ 0 ≤ x.2 ∧ x.2 < 4294967296) → ∀ t : ByteArray, xs.foldl (fun t x => lotF t x.1 x.2) t = t ++ strOfNums (flatL xs) := by
    intro xs
    induction xs with
    | nil => intro _ t; show t = t ++ strOfNums []; rw [strOf_nil, ba_append_nil]
    | cons x xs ih =>
      intro hb t
      have hx := hb x (by simp)
      rw [List.foldl_cons, ih (fun y hy => hb y (by simp [hy])), lotF_fits t x.1 x.2 hx.1 hx.2, ByteArray.append_assoc, ← strOf_append]
      rfl
  rw [rowL, smallF_fits [(xs.length : Int)] (Bs.cons (by omega) Bs.nil), gen xs hx, ByteArray.append_assoc, ← strOf_append]
  rfl
theorem bs_row2 {L b g : Nat} {rv : RecV} {l : List Int} {w wx : World} (h : BS L b g rv l w wx) {v : Value} {xs : List Int} (hr : RowI w v xs) (hn : xs.length ≤ 255) (hb : Bs xs) (hl : l.length ≤ 1000) :
    Calls Tryz.prog 69 #[.pointer (some ⟨b, 0, none⟩), v, .func (.func 70) #[] #[.pointer (some ⟨g, 0, none⟩)]] wx (BSPost L b g rv (l ++ rowIL xs) w) := by
  obtain ⟨a, cap, rfl, hx⟩ := h.rowI hr
  refine (rowI2_any b g (Nat.ne_of_gt h.hg) (strOfNums l) xs (by rw [strOf_size]; omega) a cap wx h.wr h.box hx).mono ?_
  rintro e w1 ⟨rfl, hk, hw⟩
  exact ⟨rfl, h.step hk hw (by rw [rowI_fits _ xs hn hb, strOf_append])⟩
theorem bs_row3 {L b g : Nat} {rv : RecV} {l : List Int} {w wx : World} (h : BS L b g rv l w wx) {v : Value} {xs : List Int} (hr : RowI w v xs) (hn : xs.length ≤ 255) (hb : Bs xs) (hl : l.length ≤ 1000) :
    Calls Tryz.prog 69 #[.pointer (some ⟨b, 0, none⟩), v, .func (.func 71) #[] #[.pointer (some ⟨g, 0, none⟩)]] wx (BSPost L b g rv (l ++ rowIL xs) w) := by
  obtain ⟨a, cap, rfl, hx⟩ := h.rowI hr
  refine (rowI3_any b g (Nat.ne_of_gt h.hg) (strOfNums l) xs (by rw [strOf_size]; omega) a cap wx h.wr h.box hx).mono ?_
  rintro e w1 ⟨rfl, hk, hw⟩
  exact ⟨rfl, h.step hk hw (by rw [rowI_fits _ xs hn hb, strOf_append])⟩
theorem bs_lots {L b g : Nat} {rv : RecV} {l : List Int} {w wx : World} (h : BS L b g rv l w wx) {v : Value} {xs : List (Int × Int)} (hr : RowL w v xs) (hn : xs.length ≤ 255) (hb : ∀ x ∈ xs, (0 ≤ x.1 ∧ x.1 ≤ 255) ∧ 0 ≤ x.2 ∧ x.2 < 4294967296) (hl : l.length ≤ 1000) :
    Calls Tryz.prog 66 #[.pointer (some ⟨b, 0, none⟩), v, .func (.func 67) #[] #[.pointer (some ⟨g, 0, none⟩)]] wx (BSPost L b g rv (l ++ rowLL xs) w) := by
  obtain ⟨a, cap, rfl, hx⟩ := h.rowL hr
  refine (rowL_any b g (Nat.ne_of_gt h.hg) (strOfNums l) xs (by rw [strOf_size]; omega) a cap wx h.wr h.box hx).mono ?_
  rintro e w1 ⟨rfl, hk, hw⟩
  exact ⟨rfl, h.step hk hw (by rw [rowL_fits _ xs hn hb, strOf_append])⟩
theorem BS.start {w w1 : World} {L : Nat} {rv : RecV} (hr : RecIn w1 L rv) (hn : Below w.heap.size w w1) (hw : w.heap.size ≤ L) (ty ty2 : TypeId) (W : World) (hW : W = (w1.alloc (.cells #[.string ⟨#[]⟩] ty)).alloc (.cells #[.pointer (some ⟨w1.heap.size, 0, none⟩)] ty2)) :
    BS L w1.heap.size (w1.heap.size + 1) rv [] w W := by
  subst hW
  have h1 := new_alloc w1 (.cells #[.string ⟨#[]⟩] ty)
  have h2 := new_alloc (w1.alloc (.cells #[.string ⟨#[]⟩] ty)) (.cells #[.pointer (some ⟨w1.heap.size, 0, none⟩)] ty2)
  have h3 := new_trans h1 h2
  have hs : (w1.alloc (.cells #[.string ⟨#[]⟩] ty)).heap.size = w1.heap.size + 1 := by simp
  have hc : (w1.alloc (.cells #[.string ⟨#[]⟩] ty)).cell? ⟨w1.heap.size, 0, none⟩ = some (.string ⟨#[]⟩) := cell_new _ _ _ 0
  refine ⟨hr.new h3, ⟨(h2.cell (by simp)).trans hc, (h2.frozen (p := ⟨w1.heap.size, 0, none⟩) (by simp)).trans (frozen_new _ _ _ 0)⟩, ?_, hn.trans (h3.mono hn.size), hr.lt, Nat.lt_succ_self _, hw⟩
  have := cell_new (w1.alloc (.cells #[.string ⟨#[]⟩] ty)) #[.pointer (some ⟨w1.heap.size, 0, none⟩)] ty2 0
  rw [hs] at this
  exact this
end Go.Proofs.YtfnekbfcndkjeaaGreatDoor
namespace Go.Proofs.YtfnekbfcndkjeaaGreatDoor
open Go.RowKit
set_option maxHeartbeats 2000000 in
set_option maxRecDepth 100000 in
theorem bytes_k1 (bb ll oo : Value) (d : RecD) (ho : d.ok) (hkd : d.kind = 1) (hm : mayB d = true) (w : World) (RB : RowI w bb d.barred) (RL : RowL w ll d.lots) (RO : RowI w oo d.owners) :
    Calls Tryz.prog 39 #[.agg (recCells (d.toV bb ll oo))] w fun e w' => e = .returned (.tuple #[.string (bytesF d), .int .i64 0]) ∧ Below w.heap.size w w' := by
  have h : RecAt w (d.toV bb ll oo) d := ⟨bb, ll, oo, rfl, RB, RL, RO⟩
  have hi0 : (Tryz.prog.info? 49).map (·.size) = some (recCells (d.toV bb ll oo)).size := by rw [recCells_size]; kernel_rfl
  obtain ⟨L, hL⟩ : ∃ x, x = w.heap.size := ⟨_, rfl⟩
  obtain ⟨w0, hw0⟩ : ∃ z, z = w.alloc (.cells (recCells (d.toV bb ll oo)) 49) := ⟨_, rfl⟩
  have HN0 : Aside (Below w.heap.size w w0) := by rw [hw0]; exact new_alloc _ _
  have HR0 : Aside (RecIn w0 L (d.toV bb ll oo)) := by rw [hw0, hL]; exact RecIn.box _ _
  have HLw : Aside (w.heap.size ≤ L) := Nat.le_of_eq hL.symm
  have H := aside h
  have HO := aside ho
  have HM := aside hm
  have HKD := aside hkd
  clear h ho hm hkd
  go_enter Tryz.func39, Tryz.ntmps39
  go_upto_region 1 with fail
  rw [← hw0, ← hL]
  clear hw0 hL
  go_wp2_with (first | (refine wpList_load_row rfl _ _ rfl L rfl _ (recCells (d.toV bb ll oo)) (0, 0) _ HR0.out Tryz.underlying49 rfl hi0 ?_) | fail)
  refine (may_any (d.toV bb ll oo) d HO.out w0 (H.out.on HN0.out)).mono ?_
  rintro e w1 ⟨rfl, hb⟩
  rw [HM.out]
  have HR1 := aside (HR0.out.new hb)
  have HN1 := aside (HN0.out.trans (hb.mono HN0.out.size))
  clear hb hi0 HR0 HN0
  go_upto_region 4 with fail
  obtain ⟨W, hW⟩ : ∃ W, W = (w1.alloc (.cells #[.string ⟨#[]⟩] 120)).alloc (.cells #[.pointer (some ⟨w1.heap.size, 0, none⟩)] 118) := ⟨_, rfl⟩
  obtain ⟨b, hb⟩ : ∃ b, b = w1.heap.size := ⟨_, rfl⟩
  obtain ⟨g, hg⟩ : ∃ g, g = w1.heap.size + 1 := ⟨_, rfl⟩
  have H0 : Aside (BS L b g (d.toV bb ll oo) [] w W) := by rw [hb, hg]; exact BS.start HR1.out HN1.out HLw.out _ _ W hW
  clear HR1 HN1
  have RB := aside RB
  have RL := aside RL
  have RO := aside RO
  clear H
  obtain ⟨hr0, _⟩ := mayB_and HM.out
  have hrt := right1 HKD.out hr0
  have HT9 := HO.out.tick.2
  have HBS := (bytes_bs HM.out HO.out).1
  have HL : Aside (bytesL d = [1, d.carriers, d.commit, d.reveal, d.scheme] ++ rowLL d.lots ++ rowIL d.owners) := by rw [Aside, bytesL, if_pos HKD.out]
  rw [HL.out] at HBS
  have HBS := aside HBS
  clear hr0
  rw [← hW, ← hg, ← hb]
  clear hW hg hb
  obtain ⟨q1, q2, q3, q4, q5, q6, q7, q8, q9, q10⟩ := hrt
  have HP1 : Aside (∀ x ∈ d.lots, (0 ≤ x.1 ∧ x.1 ≤ 255) ∧ 0 ≤ x.2 ∧ x.2 < 4294967296) := fun x hx => by have := q7 x hx; omega
  have HP2 : Aside (Bs d.owners) := fun x hx => by have := q8 x hx; omega
  clear q7 q8 q9 q10
  have cg := H0.out.box
  have c0 : W.cell? ⟨L, 0, none⟩ = some (.int .i64 1) := by rw [← HKD.out]; exact H0.out.record.kind
  go_wp2_with fail
  refine (bs_small H0.out [1] (Bs.cons (by omega) (Bs.nil)) (by simp [rowLL, rowIL, be_length, flatL_length] <;> omega) _ rfl _ _ rfl).mono ?_
  rintro e W1 ⟨rfl, hq⟩
  have H1 : Aside (BS L b g (d.toV bb ll oo) ([1]) w W1) := hq
  clear H0 hq cg c0
  have cg := H1.out.box
  have c0 : W1.cell? ⟨L, 0, none⟩ = some (.int .i64 1) := by rw [← HKD.out]; exact H1.out.record.kind
  have c43 : W1.cell? ⟨L, 43, none⟩ = some (.int .i64 d.carriers) := H1.out.record.carriers
  have c44 : W1.cell? ⟨L, 44, none⟩ = some (.int .i64 d.commit) := H1.out.record.commit
  have c45 : W1.cell? ⟨L, 45, none⟩ = some (.int .i64 d.reveal) := H1.out.record.reveal
  have c46 : W1.cell? ⟨L, 46, none⟩ = some (.int .i64 d.scheme) := H1.out.record.scheme
  go_wp2_with fail
  refine (bs_small H1.out [d.carriers, d.commit, d.reveal, d.scheme] (Bs.cons (by omega) (Bs.cons (by omega) (Bs.cons (by omega) (Bs.cons (by omega) (Bs.nil))))) (by simp [rowLL, rowIL, be_length, flatL_length] <;> omega) _ rfl _ _ rfl).mono ?_
  rintro e W2 ⟨rfl, hq⟩
  have H2 : Aside (BS L b g (d.toV bb ll oo) ([1] ++ [d.carriers, d.commit, d.reveal, d.scheme]) w W2) := hq
  clear H1 hq cg c0 c43 c44 c45 c46
  have cg := H2.out.box
  have c0 : W2.cell? ⟨L, 0, none⟩ = some (.int .i64 1) := by rw [← HKD.out]; exact H2.out.record.kind
  have c47 : W2.cell? ⟨L, 47, none⟩ = some ll := H2.out.record.lots
  go_wp2_with fail
  refine (bs_lots H2.out RL.out (by omega) HP1.out (by simp [rowLL, rowIL, be_length, flatL_length] <;> omega)).mono ?_
  rintro e W3 ⟨rfl, hq⟩
  have H3 : Aside (BS L b g (d.toV bb ll oo) ([1] ++ [d.carriers, d.commit, d.reveal, d.scheme] ++ rowLL d.lots) w W3) := hq
  clear H2 hq cg c0 c47
  have cg := H3.out.box
  have c0 : W3.cell? ⟨L, 0, none⟩ = some (.int .i64 1) := by rw [← HKD.out]; exact H3.out.record.kind
  have c48 : W3.cell? ⟨L, 48, none⟩ = some oo := H3.out.record.owners
  go_wp2_with fail
  refine (bs_row2 H3.out RO.out (by omega) HP2.out (by simp [rowLL, rowIL, be_length, flatL_length] <;> omega)).mono ?_
  rintro e W4 ⟨rfl, hq⟩
  have H4 : Aside (BS L b g (d.toV bb ll oo) ([1] ++ [d.carriers, d.commit, d.reveal, d.scheme] ++ rowLL d.lots ++ rowIL d.owners) w W4) := hq
  clear H3 hq cg c0 c48
  have cg := H4.out.box
  have c0 : W4.cell? ⟨L, 0, none⟩ = some (.int .i64 1) := by rw [← HKD.out]; exact H4.out.record.kind
  have cw : W4.cell? ⟨b, 0, none⟩ = some (.string (bytesF d)) := by rw [bytesF, HL.out]; exact H4.out.wr.cell
  have HN := aside H4.out.new
  clear H4
  go_wp2_with fail
  go_ret2
  exact ⟨rfl, HN.out⟩
end Go.Proofs.YtfnekbfcndkjeaaGreatDoor
namespace Go.Proofs.YtfnekbfcndkjeaaGreatDoor
open Go.RowKit
set_option maxHeartbeats 2000000 in
set_option maxRecDepth 100000 in
theorem bytes_k2 (bb ll oo : Value) (d : RecD) (ho : d.ok) (hkd : d.kind = 2) (hm : mayB d = true) (w : World) (RB : RowI w bb d.barred) (RL : RowL w ll d.lots) (RO : RowI w oo d.owners) :
    Calls Tryz.prog 39 #[.agg (recCells (d.toV bb ll oo))] w fun e w' => e = .returned (.tuple #[.string (bytesF d), .int .i64 0]) ∧ Below w.heap.size w w' := by
  have h : RecAt w (d.toV bb ll oo) d := ⟨bb, ll, oo, rfl, RB, RL, RO⟩
  have hi0 : (Tryz.prog.info? 49).map (·.size) = some (recCells (d.toV bb ll oo)).size := by rw [recCells_size]; kernel_rfl
  obtain ⟨L, hL⟩ : ∃ x, x = w.heap.size := ⟨_, rfl⟩
  obtain ⟨w0, hw0⟩ : ∃ z, z = w.alloc (.cells (recCells (d.toV bb ll oo)) 49) := ⟨_, rfl⟩
  have HN0 : Aside (Below w.heap.size w w0) := by rw [hw0]; exact new_alloc _ _
  have HR0 : Aside (RecIn w0 L (d.toV bb ll oo)) := by rw [hw0, hL]; exact RecIn.box _ _
  have HLw : Aside (w.heap.size ≤ L) := Nat.le_of_eq hL.symm
  have H := aside h
  have HO := aside ho
  have HM := aside hm
  have HKD := aside hkd
  clear h ho hm hkd
  go_enter Tryz.func39, Tryz.ntmps39
  go_upto_region 1 with fail
  rw [← hw0, ← hL]
  clear hw0 hL
  go_wp2_with (first | (refine wpList_load_row rfl _ _ rfl L rfl _ (recCells (d.toV bb ll oo)) (0, 0) _ HR0.out Tryz.underlying49 rfl hi0 ?_) | fail)
  refine (may_any (d.toV bb ll oo) d HO.out w0 (H.out.on HN0.out)).mono ?_
  rintro e w1 ⟨rfl, hb⟩
  rw [HM.out]
  have HR1 := aside (HR0.out.new hb)
  have HN1 := aside (HN0.out.trans (hb.mono HN0.out.size))
  clear hb hi0 HR0 HN0
  go_upto_region 4 with fail
  obtain ⟨W, hW⟩ : ∃ W, W = (w1.alloc (.cells #[.string ⟨#[]⟩] 120)).alloc (.cells #[.pointer (some ⟨w1.heap.size, 0, none⟩)] 118) := ⟨_, rfl⟩
  obtain ⟨b, hb⟩ : ∃ b, b = w1.heap.size := ⟨_, rfl⟩
  obtain ⟨g, hg⟩ : ∃ g, g = w1.heap.size + 1 := ⟨_, rfl⟩
  have H0 : Aside (BS L b g (d.toV bb ll oo) [] w W) := by rw [hb, hg]; exact BS.start HR1.out HN1.out HLw.out _ _ W hW
  clear HR1 HN1
  have RB := aside RB
  have RL := aside RL
  have RO := aside RO
  clear H
  obtain ⟨hr0, _⟩ := mayB_and HM.out
  have hrt := right2 HKD.out hr0
  have HT9 := HO.out.tick.2
  have HBS := (bytes_bs HM.out HO.out).1
  have HL : Aside (bytesL d = [2, d.round, d.lot] ++ be 8 d.tick ++ rowIL d.barred) := by rw [Aside, bytesL, if_neg (by rw [HKD.out]; decide), if_pos HKD.out]
  rw [HL.out] at HBS
  have HBS := aside HBS
  clear hr0
  rw [← hW, ← hg, ← hb]
  clear hW hg hb
  obtain ⟨⟨t0, q1⟩, q2, q3⟩ := hrt
  have q4 := rise_len _ q3
  have HP2 : Aside (Bs d.barred) := fun x hx => by have := rise_mem _ q3 x hx; omega
  clear q3
  have cg := H0.out.box
  have c0 : W.cell? ⟨L, 0, none⟩ = some (.int .i64 2) := by rw [← HKD.out]; exact H0.out.record.kind
  go_wp2_with fail
  refine (bs_small H0.out [2] (Bs.cons (by omega) (Bs.nil)) (by simp [rowLL, rowIL, be_length, flatL_length] <;> omega) _ rfl _ _ rfl).mono ?_
  rintro e W1 ⟨rfl, hq⟩
  have H1 : Aside (BS L b g (d.toV bb ll oo) ([2]) w W1) := hq
  clear H0 hq cg c0
  have cg := H1.out.box
  have c0 : W1.cell? ⟨L, 0, none⟩ = some (.int .i64 2) := by rw [← HKD.out]; exact H1.out.record.kind
  have c1 : W1.cell? ⟨L, 1, none⟩ = some (.int .i64 d.round) := H1.out.record.round
  go_wp2_with fail
  refine (bs_small H1.out [d.round] (Bs.cons (by omega) (Bs.nil)) (by simp [rowLL, rowIL, be_length, flatL_length] <;> omega) _ rfl _ _ rfl).mono ?_
  rintro e W2 ⟨rfl, hq⟩
  have H2 : Aside (BS L b g (d.toV bb ll oo) ([2] ++ [d.round]) w W2) := hq
  clear H1 hq cg c0 c1
  have cg := H2.out.box
  have c0 : W2.cell? ⟨L, 0, none⟩ = some (.int .i64 2) := by rw [← HKD.out]; exact H2.out.record.kind
  have c2 : W2.cell? ⟨L, 2, none⟩ = some (.int .i64 d.lot) := H2.out.record.lot
  go_wp2_with fail
  refine (bs_small H2.out [d.lot] (Bs.cons (by omega) (Bs.nil)) (by simp [rowLL, rowIL, be_length, flatL_length] <;> omega) _ rfl _ _ rfl).mono ?_
  rintro e W3 ⟨rfl, hq⟩
  have H3 : Aside (BS L b g (d.toV bb ll oo) ([2] ++ [d.round] ++ [d.lot]) w W3) := hq
  clear H2 hq cg c0 c2
  have cg := H3.out.box
  have c0 : W3.cell? ⟨L, 0, none⟩ = some (.int .i64 2) := by rw [← HKD.out]; exact H3.out.record.kind
  have c4 : W3.cell? ⟨L, 4, none⟩ = some (.int .i64 d.tick) := H3.out.record.tick
  go_wp2_with fail
  refine (bs_num H3.out d.tick (by omega) (by simp [be_length] <;> omega)).mono ?_
  rintro e W4 ⟨rfl, hq⟩
  have H4 : Aside (BS L b g (d.toV bb ll oo) ([2] ++ [d.round] ++ [d.lot] ++ be 8 d.tick) w W4) := hq
  clear H3 hq cg c0 c4
  have cg := H4.out.box
  have c0 : W4.cell? ⟨L, 0, none⟩ = some (.int .i64 2) := by rw [← HKD.out]; exact H4.out.record.kind
  have c5 : W4.cell? ⟨L, 5, none⟩ = some bb := H4.out.record.barred
  go_wp2_with fail
  refine (bs_row3 H4.out RB.out (by omega) HP2.out (by simp [rowLL, rowIL, be_length, flatL_length] <;> omega)).mono ?_
  rintro e W5 ⟨rfl, hq⟩
  have H5 : Aside (BS L b g (d.toV bb ll oo) ([2] ++ [d.round] ++ [d.lot] ++ be 8 d.tick ++ rowIL d.barred) w W5) := hq
  clear H4 hq cg c0 c5
  have cg := H5.out.box
  have c0 : W5.cell? ⟨L, 0, none⟩ = some (.int .i64 2) := by rw [← HKD.out]; exact H5.out.record.kind
  have cw : W5.cell? ⟨b, 0, none⟩ = some (.string (bytesF d)) := by rw [bytesF, HL.out]; exact H5.out.wr.cell
  have HN := aside H5.out.new
  clear H5
  go_wp2_with fail
  go_ret2
  exact ⟨rfl, HN.out⟩
end Go.Proofs.YtfnekbfcndkjeaaGreatDoor
namespace Go.Proofs.YtfnekbfcndkjeaaGreatDoor
open Go.RowKit
set_option maxHeartbeats 2000000 in
set_option maxRecDepth 100000 in
theorem bytes_k3 (bb ll oo : Value) (d : RecD) (ho : d.ok) (hkd : d.kind = 3) (hm : mayB d = true) (w : World) (RB : RowI w bb d.barred) (RL : RowL w ll d.lots) (RO : RowI w oo d.owners) :
    Calls Tryz.prog 39 #[.agg (recCells (d.toV bb ll oo))] w fun e w' => e = .returned (.tuple #[.string (bytesF d), .int .i64 0]) ∧ Below w.heap.size w w' := by
  have h : RecAt w (d.toV bb ll oo) d := ⟨bb, ll, oo, rfl, RB, RL, RO⟩
  have hi0 : (Tryz.prog.info? 49).map (·.size) = some (recCells (d.toV bb ll oo)).size := by rw [recCells_size]; kernel_rfl
  obtain ⟨L, hL⟩ : ∃ x, x = w.heap.size := ⟨_, rfl⟩
  obtain ⟨w0, hw0⟩ : ∃ z, z = w.alloc (.cells (recCells (d.toV bb ll oo)) 49) := ⟨_, rfl⟩
  have HN0 : Aside (Below w.heap.size w w0) := by rw [hw0]; exact new_alloc _ _
  have HR0 : Aside (RecIn w0 L (d.toV bb ll oo)) := by rw [hw0, hL]; exact RecIn.box _ _
  have HLw : Aside (w.heap.size ≤ L) := Nat.le_of_eq hL.symm
  have H := aside h
  have HO := aside ho
  have HM := aside hm
  have HKD := aside hkd
  clear h ho hm hkd
  go_enter Tryz.func39, Tryz.ntmps39
  go_upto_region 1 with fail
  rw [← hw0, ← hL]
  clear hw0 hL
  go_wp2_with (first | (refine wpList_load_row rfl _ _ rfl L rfl _ (recCells (d.toV bb ll oo)) (0, 0) _ HR0.out Tryz.underlying49 rfl hi0 ?_) | fail)
  refine (may_any (d.toV bb ll oo) d HO.out w0 (H.out.on HN0.out)).mono ?_
  rintro e w1 ⟨rfl, hb⟩
  rw [HM.out]
  have HR1 := aside (HR0.out.new hb)
  have HN1 := aside (HN0.out.trans (hb.mono HN0.out.size))
  clear hb hi0 HR0 HN0
  go_upto_region 4 with fail
  obtain ⟨W, hW⟩ : ∃ W, W = (w1.alloc (.cells #[.string ⟨#[]⟩] 120)).alloc (.cells #[.pointer (some ⟨w1.heap.size, 0, none⟩)] 118) := ⟨_, rfl⟩
  obtain ⟨b, hb⟩ : ∃ b, b = w1.heap.size := ⟨_, rfl⟩
  obtain ⟨g, hg⟩ : ∃ g, g = w1.heap.size + 1 := ⟨_, rfl⟩
  have H0 : Aside (BS L b g (d.toV bb ll oo) [] w W) := by rw [hb, hg]; exact BS.start HR1.out HN1.out HLw.out _ _ W hW
  clear HR1 HN1
  have RB := aside RB
  have RL := aside RL
  have RO := aside RO
  clear H
  obtain ⟨hr0, _⟩ := mayB_and HM.out
  have hrt := right3 HKD.out hr0
  have HT9 := HO.out.tick.2
  have HBS := (bytes_bs HM.out HO.out).1
  have HL : Aside (bytesL d = [3, d.round, d.carrier] ++ d.dig ++ be 8 d.tick) := by rw [Aside, bytesL, if_neg (by rw [HKD.out]; decide), if_neg (by rw [HKD.out]; decide), if_pos HKD.out]
  rw [HL.out] at HBS
  have HBS := aside HBS
  clear hr0
  rw [← hW, ← hg, ← hb]
  clear hW hg hb
  obtain ⟨⟨t0, q1⟩, q2⟩ := hrt
  have cg := H0.out.box
  have c0 : W.cell? ⟨L, 0, none⟩ = some (.int .i64 3) := by rw [← HKD.out]; exact H0.out.record.kind
  go_wp2_with fail
  refine (bs_small H0.out [3] (Bs.cons (by omega) (Bs.nil)) (by simp [rowLL, rowIL, be_length, flatL_length] <;> omega) _ rfl _ _ rfl).mono ?_
  rintro e W1 ⟨rfl, hq⟩
  have H1 : Aside (BS L b g (d.toV bb ll oo) ([3]) w W1) := hq
  clear H0 hq cg c0
  have cg := H1.out.box
  have c0 : W1.cell? ⟨L, 0, none⟩ = some (.int .i64 3) := by rw [← HKD.out]; exact H1.out.record.kind
  have c1 : W1.cell? ⟨L, 1, none⟩ = some (.int .i64 d.round) := H1.out.record.round
  go_wp2_with fail
  refine (bs_small H1.out [d.round] (Bs.cons (by omega) (Bs.nil)) (by simp [rowLL, rowIL, be_length, flatL_length] <;> omega) _ rfl _ _ rfl).mono ?_
  rintro e W2 ⟨rfl, hq⟩
  have H2 : Aside (BS L b g (d.toV bb ll oo) ([3] ++ [d.round]) w W2) := hq
  clear H1 hq cg c0 c1
  have cg := H2.out.box
  have c0 : W2.cell? ⟨L, 0, none⟩ = some (.int .i64 3) := by rw [← HKD.out]; exact H2.out.record.kind
  have c3 : W2.cell? ⟨L, 3, none⟩ = some (.int .i64 d.carrier) := H2.out.record.carrier
  go_wp2_with fail
  refine (bs_small H2.out [d.carrier] (Bs.cons (by omega) (Bs.nil)) (by simp [rowLL, rowIL, be_length, flatL_length] <;> omega) _ rfl _ _ rfl).mono ?_
  rintro e W3 ⟨rfl, hq⟩
  have H3 : Aside (BS L b g (d.toV bb ll oo) ([3] ++ [d.round] ++ [d.carrier]) w W3) := hq
  clear H2 hq cg c0 c3
  have cg := H3.out.box
  have c0 : W3.cell? ⟨L, 0, none⟩ = some (.int .i64 3) := by rw [← HKD.out]; exact H3.out.record.kind
  obtain ⟨T, hT⟩ : ∃ T, T = strOfNums ([3] ++ [d.round] ++ [d.carrier]) := ⟨_, rfl⟩
  have cw : W3.cell? ⟨b, 0, none⟩ = some (.string T) := by rw [hT]; exact H3.out.wr.cell
  have fw := H3.out.wr.free
  have hsz : T.size ≤ 1000 := by rw [hT, strOf_size]; simp
  obtain ⟨D, hD⟩ : ∃ D, D = strOfNums d.dig := ⟨_, rfl⟩
  have hds : D.size ≤ 1000 := by rw [hD, strOf_size, HO.out.len]; decide
  have kc := run_convert_bytes_arg (P := Tryz.prog) (w := W3.drew) 22 5 Tryz.underlying22 Tryz.underlying5 L 6 32 32 d.dig HO.out.len (fun i hi => H3.out.record.dig i hi) 9 Tryz.underlying9
  rw [← hD] at kc
  have HX : Aside (BS L b g (d.toV bb ll oo) ([3] ++ [d.round] ++ [d.carrier] ++ d.dig) w (W3.setCell ⟨b, 0, none⟩ (.string (T ++ D))).drew) := by
    refine (H3.out.step (t := T ++ D) (l' := [3] ++ [d.round] ++ [d.carrier] ++ d.dig) ((Keeps.refl _ _).setCell (p := ⟨b, 0, none⟩) (.inr (fun h => h rfl)) _) ⟨World.cell?_setCell_same _ _ _ cw, by rw [World.frozen?_setCell]; exact fw⟩ (by rw [hT, hD, ← strOf_append])).on (new_drew _)
  have hnb : ¬ 9223372036854775807 < T.size + D.size := by omega
  clear hT hD
  go_wp2_with fail
  go_still_tail 10, (by kernel_rfl)
  go_upto_region 25 with fail
  obtain ⟨W4, hW4⟩ : ∃ z, z = (W3.setCell ⟨b, 0, none⟩ (.string (T ++ D))).drew := ⟨_, rfl⟩
  rw [← hW4] at HX ⊢
  clear hW4 cg c0 cw fw hsz hds kc H3
  have H4 := HX
  have cg := H4.out.box
  have c0 : W4.cell? ⟨L, 0, none⟩ = some (.int .i64 3) := by rw [← HKD.out]; exact H4.out.record.kind
  have c4 : W4.cell? ⟨L, 4, none⟩ = some (.int .i64 d.tick) := H4.out.record.tick
  go_wp2_with fail
  refine (bs_num H4.out d.tick (by omega) (by simp [be_length, HO.out.len] <;> omega)).mono ?_
  rintro e W5 ⟨rfl, hq⟩
  have H5 : Aside (BS L b g (d.toV bb ll oo) ([3] ++ [d.round] ++ [d.carrier] ++ d.dig ++ be 8 d.tick) w W5) := hq
  clear H4 hq cg c0 c4
  have cg := H5.out.box
  have c0 : W5.cell? ⟨L, 0, none⟩ = some (.int .i64 3) := by rw [← HKD.out]; exact H5.out.record.kind
  have cw : W5.cell? ⟨b, 0, none⟩ = some (.string (bytesF d)) := by rw [bytesF, HL.out]; exact H5.out.wr.cell
  have HN := aside H5.out.new
  clear H5
  go_wp2_with fail
  go_ret2
  exact ⟨rfl, HN.out⟩
end Go.Proofs.YtfnekbfcndkjeaaGreatDoor
namespace Go.Proofs.YtfnekbfcndkjeaaGreatDoor
open Go.RowKit
set_option maxHeartbeats 2000000 in
set_option maxRecDepth 100000 in
theorem bytes_k4 (bb ll oo : Value) (d : RecD) (ho : d.ok) (hkd : d.kind = 4) (hm : mayB d = true) (w : World) (RB : RowI w bb d.barred) (RL : RowL w ll d.lots) (RO : RowI w oo d.owners) :
    Calls Tryz.prog 39 #[.agg (recCells (d.toV bb ll oo))] w fun e w' => e = .returned (.tuple #[.string (bytesF d), .int .i64 0]) ∧ Below w.heap.size w w' := by
  have h : RecAt w (d.toV bb ll oo) d := ⟨bb, ll, oo, rfl, RB, RL, RO⟩
  have hi0 : (Tryz.prog.info? 49).map (·.size) = some (recCells (d.toV bb ll oo)).size := by rw [recCells_size]; kernel_rfl
  obtain ⟨L, hL⟩ : ∃ x, x = w.heap.size := ⟨_, rfl⟩
  obtain ⟨w0, hw0⟩ : ∃ z, z = w.alloc (.cells (recCells (d.toV bb ll oo)) 49) := ⟨_, rfl⟩
  have HN0 : Aside (Below w.heap.size w w0) := by rw [hw0]; exact new_alloc _ _
  have HR0 : Aside (RecIn w0 L (d.toV bb ll oo)) := by rw [hw0, hL]; exact RecIn.box _ _
  have HLw : Aside (w.heap.size ≤ L) := Nat.le_of_eq hL.symm
  have H := aside h
  have HO := aside ho
  have HM := aside hm
  have HKD := aside hkd
  clear h ho hm hkd
  go_enter Tryz.func39, Tryz.ntmps39
  go_upto_region 1 with fail
  rw [← hw0, ← hL]
  clear hw0 hL
  go_wp2_with (first | (refine wpList_load_row rfl _ _ rfl L rfl _ (recCells (d.toV bb ll oo)) (0, 0) _ HR0.out Tryz.underlying49 rfl hi0 ?_) | fail)
  refine (may_any (d.toV bb ll oo) d HO.out w0 (H.out.on HN0.out)).mono ?_
  rintro e w1 ⟨rfl, hb⟩
  rw [HM.out]
  have HR1 := aside (HR0.out.new hb)
  have HN1 := aside (HN0.out.trans (hb.mono HN0.out.size))
  clear hb hi0 HR0 HN0
  go_upto_region 4 with fail
  obtain ⟨W, hW⟩ : ∃ W, W = (w1.alloc (.cells #[.string ⟨#[]⟩] 120)).alloc (.cells #[.pointer (some ⟨w1.heap.size, 0, none⟩)] 118) := ⟨_, rfl⟩
  obtain ⟨b, hb⟩ : ∃ b, b = w1.heap.size := ⟨_, rfl⟩
  obtain ⟨g, hg⟩ : ∃ g, g = w1.heap.size + 1 := ⟨_, rfl⟩
  have H0 : Aside (BS L b g (d.toV bb ll oo) [] w W) := by rw [hb, hg]; exact BS.start HR1.out HN1.out HLw.out _ _ W hW
  clear HR1 HN1
  have RB := aside RB
  have RL := aside RL
  have RO := aside RO
  clear H
  obtain ⟨hr0, _⟩ := mayB_and HM.out
  have hrt := right4 HKD.out hr0
  have HT9 := HO.out.tick.2
  have HBS := (bytes_bs HM.out HO.out).1
  have HL : Aside (bytesL d = [4, d.round, d.carrier] ++ be 8 d.bid ++ be 8 d.nonce ++ be 8 d.tick) := by rw [Aside, bytesL, if_neg (by rw [HKD.out]; decide), if_neg (by rw [HKD.out]; decide), if_neg (by rw [HKD.out]; decide), if_pos HKD.out]
  rw [HL.out] at HBS
  have HBS := aside HBS
  clear hr0
  rw [← hW, ← hg, ← hb]
  clear hW hg hb
  obtain ⟨⟨⟨t0, q1⟩, q2⟩, q3⟩ := hrt
  have q5 := HO.out.bid
  have q6 := HO.out.nonce
  have cg := H0.out.box
  have c0 : W.cell? ⟨L, 0, none⟩ = some (.int .i64 4) := by rw [← HKD.out]; exact H0.out.record.kind
  go_wp2_with fail
  refine (bs_small H0.out [4] (Bs.cons (by omega) (Bs.nil)) (by simp [rowLL, rowIL, be_length, flatL_length] <;> omega) _ rfl _ _ rfl).mono ?_
  rintro e W1 ⟨rfl, hq⟩
  have H1 : Aside (BS L b g (d.toV bb ll oo) ([4]) w W1) := hq
  clear H0 hq cg c0
  have cg := H1.out.box
  have c0 : W1.cell? ⟨L, 0, none⟩ = some (.int .i64 4) := by rw [← HKD.out]; exact H1.out.record.kind
  have c1 : W1.cell? ⟨L, 1, none⟩ = some (.int .i64 d.round) := H1.out.record.round
  go_wp2_with fail
  refine (bs_small H1.out [d.round] (Bs.cons (by omega) (Bs.nil)) (by simp [rowLL, rowIL, be_length, flatL_length] <;> omega) _ rfl _ _ rfl).mono ?_
  rintro e W2 ⟨rfl, hq⟩
  have H2 : Aside (BS L b g (d.toV bb ll oo) ([4] ++ [d.round]) w W2) := hq
  clear H1 hq cg c0 c1
  have cg := H2.out.box
  have c0 : W2.cell? ⟨L, 0, none⟩ = some (.int .i64 4) := by rw [← HKD.out]; exact H2.out.record.kind
  have c3 : W2.cell? ⟨L, 3, none⟩ = some (.int .i64 d.carrier) := H2.out.record.carrier
  go_wp2_with fail
  refine (bs_small H2.out [d.carrier] (Bs.cons (by omega) (Bs.nil)) (by simp [rowLL, rowIL, be_length, flatL_length] <;> omega) _ rfl _ _ rfl).mono ?_
  rintro e W3 ⟨rfl, hq⟩
  have H3 : Aside (BS L b g (d.toV bb ll oo) ([4] ++ [d.round] ++ [d.carrier]) w W3) := hq
  clear H2 hq cg c0 c3
  have cg := H3.out.box
  have c0 : W3.cell? ⟨L, 0, none⟩ = some (.int .i64 4) := by rw [← HKD.out]; exact H3.out.record.kind
  have c38 : W3.cell? ⟨L, 38, none⟩ = some (.int .u64 d.bid) := H3.out.record.bid
  go_wp2_with fail
  refine (bs_num H3.out d.bid (by omega) (by simp [be_length] <;> omega)).mono ?_
  rintro e W4 ⟨rfl, hq⟩
  have H4 : Aside (BS L b g (d.toV bb ll oo) ([4] ++ [d.round] ++ [d.carrier] ++ be 8 d.bid) w W4) := hq
  clear H3 hq cg c0 c38
  have cg := H4.out.box
  have c0 : W4.cell? ⟨L, 0, none⟩ = some (.int .i64 4) := by rw [← HKD.out]; exact H4.out.record.kind
  have c39 : W4.cell? ⟨L, 39, none⟩ = some (.int .u64 d.nonce) := H4.out.record.nonce
  go_wp2_with fail
  refine (bs_num H4.out d.nonce (by omega) (by simp [be_length] <;> omega)).mono ?_
  rintro e W5 ⟨rfl, hq⟩
  have H5 : Aside (BS L b g (d.toV bb ll oo) ([4] ++ [d.round] ++ [d.carrier] ++ be 8 d.bid ++ be 8 d.nonce) w W5) := hq
  clear H4 hq cg c0 c39
  have cg := H5.out.box
  have c0 : W5.cell? ⟨L, 0, none⟩ = some (.int .i64 4) := by rw [← HKD.out]; exact H5.out.record.kind
  have c4 : W5.cell? ⟨L, 4, none⟩ = some (.int .i64 d.tick) := H5.out.record.tick
  go_wp2_with fail
  refine (bs_num H5.out d.tick (by omega) (by simp [be_length] <;> omega)).mono ?_
  rintro e W6 ⟨rfl, hq⟩
  have H6 : Aside (BS L b g (d.toV bb ll oo) ([4] ++ [d.round] ++ [d.carrier] ++ be 8 d.bid ++ be 8 d.nonce ++ be 8 d.tick) w W6) := hq
  clear H5 hq cg c0 c4
  have cg := H6.out.box
  have c0 : W6.cell? ⟨L, 0, none⟩ = some (.int .i64 4) := by rw [← HKD.out]; exact H6.out.record.kind
  have cw : W6.cell? ⟨b, 0, none⟩ = some (.string (bytesF d)) := by rw [bytesF, HL.out]; exact H6.out.wr.cell
  have HN := aside H6.out.new
  clear H6
  go_wp2_with fail
  go_ret2
  exact ⟨rfl, HN.out⟩
end Go.Proofs.YtfnekbfcndkjeaaGreatDoor
namespace Go.Proofs.YtfnekbfcndkjeaaGreatDoor
open Go.RowKit
set_option maxHeartbeats 2000000 in
set_option maxRecDepth 100000 in
theorem bytes_k5 (bb ll oo : Value) (d : RecD) (ho : d.ok) (hkd : d.kind = 5) (hm : mayB d = true) (w : World) (RB : RowI w bb d.barred) (RL : RowL w ll d.lots) (RO : RowI w oo d.owners) :
    Calls Tryz.prog 39 #[.agg (recCells (d.toV bb ll oo))] w fun e w' => e = .returned (.tuple #[.string (bytesF d), .int .i64 0]) ∧ Below w.heap.size w w' := by
  have h : RecAt w (d.toV bb ll oo) d := ⟨bb, ll, oo, rfl, RB, RL, RO⟩
  have hi0 : (Tryz.prog.info? 49).map (·.size) = some (recCells (d.toV bb ll oo)).size := by rw [recCells_size]; kernel_rfl
  obtain ⟨L, hL⟩ : ∃ x, x = w.heap.size := ⟨_, rfl⟩
  obtain ⟨w0, hw0⟩ : ∃ z, z = w.alloc (.cells (recCells (d.toV bb ll oo)) 49) := ⟨_, rfl⟩
  have HN0 : Aside (Below w.heap.size w w0) := by rw [hw0]; exact new_alloc _ _
  have HR0 : Aside (RecIn w0 L (d.toV bb ll oo)) := by rw [hw0, hL]; exact RecIn.box _ _
  have HLw : Aside (w.heap.size ≤ L) := Nat.le_of_eq hL.symm
  have H := aside h
  have HO := aside ho
  have HM := aside hm
  have HKD := aside hkd
  clear h ho hm hkd
  go_enter Tryz.func39, Tryz.ntmps39
  go_upto_region 1 with fail
  rw [← hw0, ← hL]
  clear hw0 hL
  go_wp2_with (first | (refine wpList_load_row rfl _ _ rfl L rfl _ (recCells (d.toV bb ll oo)) (0, 0) _ HR0.out Tryz.underlying49 rfl hi0 ?_) | fail)
  refine (may_any (d.toV bb ll oo) d HO.out w0 (H.out.on HN0.out)).mono ?_
  rintro e w1 ⟨rfl, hb⟩
  rw [HM.out]
  have HR1 := aside (HR0.out.new hb)
  have HN1 := aside (HN0.out.trans (hb.mono HN0.out.size))
  clear hb hi0 HR0 HN0
  go_upto_region 4 with fail
  obtain ⟨W, hW⟩ : ∃ W, W = (w1.alloc (.cells #[.string ⟨#[]⟩] 120)).alloc (.cells #[.pointer (some ⟨w1.heap.size, 0, none⟩)] 118) := ⟨_, rfl⟩
  obtain ⟨b, hb⟩ : ∃ b, b = w1.heap.size := ⟨_, rfl⟩
  obtain ⟨g, hg⟩ : ∃ g, g = w1.heap.size + 1 := ⟨_, rfl⟩
  have H0 : Aside (BS L b g (d.toV bb ll oo) [] w W) := by rw [hb, hg]; exact BS.start HR1.out HN1.out HLw.out _ _ W hW
  clear HR1 HN1
  have RB := aside RB
  have RL := aside RL
  have RO := aside RO
  clear H
  obtain ⟨hr0, _⟩ := mayB_and HM.out
  have hrt := right5 HKD.out hr0
  have HT9 := HO.out.tick.2
  have HBS := (bytes_bs HM.out HO.out).1
  have HL : Aside (bytesL d = [5, d.round, d.state, d.winner + 1] ++ be 8 d.price ++ be 8 d.tick) := by rw [Aside, bytesL, if_neg (by rw [HKD.out]; decide), if_neg (by rw [HKD.out]; decide), if_neg (by rw [HKD.out]; decide), if_neg (by rw [HKD.out]; decide), if_pos HKD.out]
  rw [HL.out] at HBS
  have HBS := aside HBS
  clear hr0
  rw [← hW, ← hg, ← hb]
  clear hW hg hb
  obtain ⟨⟨t0, q1⟩, q2⟩ := hrt
  have q3 : 0 ≤ d.state ∧ d.state ≤ 4 := by omega
  have q4 : -1 ≤ d.winner ∧ d.winner ≤ 7 := by omega
  have q5 := HO.out.price
  clear q2
  have cg := H0.out.box
  have c0 : W.cell? ⟨L, 0, none⟩ = some (.int .i64 5) := by rw [← HKD.out]; exact H0.out.record.kind
  go_wp2_with fail
  refine (bs_small H0.out [5] (Bs.cons (by omega) (Bs.nil)) (by simp [rowLL, rowIL, be_length, flatL_length] <;> omega) _ rfl _ _ rfl).mono ?_
  rintro e W1 ⟨rfl, hq⟩
  have H1 : Aside (BS L b g (d.toV bb ll oo) ([5]) w W1) := hq
  clear H0 hq cg c0
  have cg := H1.out.box
  have c0 : W1.cell? ⟨L, 0, none⟩ = some (.int .i64 5) := by rw [← HKD.out]; exact H1.out.record.kind
  have c1 : W1.cell? ⟨L, 1, none⟩ = some (.int .i64 d.round) := H1.out.record.round
  go_wp2_with fail
  refine (bs_small H1.out [d.round] (Bs.cons (by omega) (Bs.nil)) (by simp [rowLL, rowIL, be_length, flatL_length] <;> omega) _ rfl _ _ rfl).mono ?_
  rintro e W2 ⟨rfl, hq⟩
  have H2 : Aside (BS L b g (d.toV bb ll oo) ([5] ++ [d.round]) w W2) := hq
  clear H1 hq cg c0 c1
  have cg := H2.out.box
  have c0 : W2.cell? ⟨L, 0, none⟩ = some (.int .i64 5) := by rw [← HKD.out]; exact H2.out.record.kind
  have c40 : W2.cell? ⟨L, 40, none⟩ = some (.int .i64 d.state) := H2.out.record.state
  have c41 : W2.cell? ⟨L, 41, none⟩ = some (.int .i64 d.winner) := H2.out.record.winner
  go_wp2_with fail
  refine (bs_small H2.out [d.state, d.winner + 1] (Bs.cons (by omega) (Bs.cons (by omega) (Bs.nil))) (by simp [rowLL, rowIL, be_length, flatL_length] <;> omega) _ rfl _ _ rfl).mono ?_
  rintro e W3 ⟨rfl, hq⟩
  have H3 : Aside (BS L b g (d.toV bb ll oo) ([5] ++ [d.round] ++ [d.state, d.winner + 1]) w W3) := hq
  clear H2 hq cg c0 c40 c41
  have cg := H3.out.box
  have c0 : W3.cell? ⟨L, 0, none⟩ = some (.int .i64 5) := by rw [← HKD.out]; exact H3.out.record.kind
  have c42 : W3.cell? ⟨L, 42, none⟩ = some (.int .u64 d.price) := H3.out.record.price
  go_wp2_with fail
  refine (bs_num H3.out d.price (by omega) (by simp [be_length] <;> omega)).mono ?_
  rintro e W4 ⟨rfl, hq⟩
  have H4 : Aside (BS L b g (d.toV bb ll oo) ([5] ++ [d.round] ++ [d.state, d.winner + 1] ++ be 8 d.price) w W4) := hq
  clear H3 hq cg c0 c42
  have cg := H4.out.box
  have c0 : W4.cell? ⟨L, 0, none⟩ = some (.int .i64 5) := by rw [← HKD.out]; exact H4.out.record.kind
  have c4 : W4.cell? ⟨L, 4, none⟩ = some (.int .i64 d.tick) := H4.out.record.tick
  go_wp2_with fail
  refine (bs_num H4.out d.tick (by omega) (by simp [be_length] <;> omega)).mono ?_
  rintro e W5 ⟨rfl, hq⟩
  have H5 : Aside (BS L b g (d.toV bb ll oo) ([5] ++ [d.round] ++ [d.state, d.winner + 1] ++ be 8 d.price ++ be 8 d.tick) w W5) := hq
  clear H4 hq cg c0 c4
  have cg := H5.out.box
  have c0 : W5.cell? ⟨L, 0, none⟩ = some (.int .i64 5) := by rw [← HKD.out]; exact H5.out.record.kind
  have cw : W5.cell? ⟨b, 0, none⟩ = some (.string (bytesF d)) := by rw [bytesF, HL.out]; exact H5.out.wr.cell
  have HN := aside H5.out.new
  clear H5
  go_wp2_with fail
  go_ret2
  exact ⟨rfl, HN.out⟩
end Go.Proofs.YtfnekbfcndkjeaaGreatDoor
namespace Go.Proofs.YtfnekbfcndkjeaaGreatDoor
open Go.RowKit
set_option maxHeartbeats 2000000 in
set_option maxRecDepth 100000 in
theorem bytes_k6 (bb ll oo : Value) (d : RecD) (ho : d.ok) (hkd : d.kind = 6) (hm : mayB d = true) (w : World) (RB : RowI w bb d.barred) (RL : RowL w ll d.lots) (RO : RowI w oo d.owners) :
    Calls Tryz.prog 39 #[.agg (recCells (d.toV bb ll oo))] w fun e w' => e = .returned (.tuple #[.string (bytesF d), .int .i64 0]) ∧ Below w.heap.size w w' := by
  have h : RecAt w (d.toV bb ll oo) d := ⟨bb, ll, oo, rfl, RB, RL, RO⟩
  have hi0 : (Tryz.prog.info? 49).map (·.size) = some (recCells (d.toV bb ll oo)).size := by rw [recCells_size]; kernel_rfl
  obtain ⟨L, hL⟩ : ∃ x, x = w.heap.size := ⟨_, rfl⟩
  obtain ⟨w0, hw0⟩ : ∃ z, z = w.alloc (.cells (recCells (d.toV bb ll oo)) 49) := ⟨_, rfl⟩
  have HN0 : Aside (Below w.heap.size w w0) := by rw [hw0]; exact new_alloc _ _
  have HR0 : Aside (RecIn w0 L (d.toV bb ll oo)) := by rw [hw0, hL]; exact RecIn.box _ _
  have HLw : Aside (w.heap.size ≤ L) := Nat.le_of_eq hL.symm
  have H := aside h
  have HO := aside ho
  have HM := aside hm
  have HKD := aside hkd
  clear h ho hm hkd
  go_enter Tryz.func39, Tryz.ntmps39
  go_upto_region 1 with fail
  rw [← hw0, ← hL]
  clear hw0 hL
  go_wp2_with (first | (refine wpList_load_row rfl _ _ rfl L rfl _ (recCells (d.toV bb ll oo)) (0, 0) _ HR0.out Tryz.underlying49 rfl hi0 ?_) | fail)
  refine (may_any (d.toV bb ll oo) d HO.out w0 (H.out.on HN0.out)).mono ?_
  rintro e w1 ⟨rfl, hb⟩
  rw [HM.out]
  have HR1 := aside (HR0.out.new hb)
  have HN1 := aside (HN0.out.trans (hb.mono HN0.out.size))
  clear hb hi0 HR0 HN0
  go_upto_region 4 with fail
  obtain ⟨W, hW⟩ : ∃ W, W = (w1.alloc (.cells #[.string ⟨#[]⟩] 120)).alloc (.cells #[.pointer (some ⟨w1.heap.size, 0, none⟩)] 118) := ⟨_, rfl⟩
  obtain ⟨b, hb⟩ : ∃ b, b = w1.heap.size := ⟨_, rfl⟩
  obtain ⟨g, hg⟩ : ∃ g, g = w1.heap.size + 1 := ⟨_, rfl⟩
  have H0 : Aside (BS L b g (d.toV bb ll oo) [] w W) := by rw [hb, hg]; exact BS.start HR1.out HN1.out HLw.out _ _ W hW
  clear HR1 HN1
  have RB := aside RB
  have RL := aside RL
  have RO := aside RO
  clear H
  obtain ⟨hr0, _⟩ := mayB_and HM.out
  have hrt := right6 HKD.out hr0
  have HT9 := HO.out.tick.2
  have HBS := (bytes_bs HM.out HO.out).1
  have HL : Aside (bytesL d = [6] ++ be 8 d.tick) := by rw [Aside, bytesL, if_neg (by rw [HKD.out]; decide), if_neg (by rw [HKD.out]; decide), if_neg (by rw [HKD.out]; decide), if_neg (by rw [HKD.out]; decide), if_neg (by rw [HKD.out]; decide)]
  rw [HL.out] at HBS
  have HBS := aside HBS
  clear hr0
  rw [← hW, ← hg, ← hb]
  clear hW hg hb
  obtain ⟨⟨t0, q1⟩, q2⟩ := hrt
  clear q2
  have cg := H0.out.box
  have c0 : W.cell? ⟨L, 0, none⟩ = some (.int .i64 6) := by rw [← HKD.out]; exact H0.out.record.kind
  go_wp2_with fail
  refine (bs_small H0.out [6] (Bs.cons (by omega) (Bs.nil)) (by simp [rowLL, rowIL, be_length, flatL_length] <;> omega) _ rfl _ _ rfl).mono ?_
  rintro e W1 ⟨rfl, hq⟩
  have H1 : Aside (BS L b g (d.toV bb ll oo) ([6]) w W1) := hq
  clear H0 hq cg c0
  have cg := H1.out.box
  have c0 : W1.cell? ⟨L, 0, none⟩ = some (.int .i64 6) := by rw [← HKD.out]; exact H1.out.record.kind
  have c4 : W1.cell? ⟨L, 4, none⟩ = some (.int .i64 d.tick) := H1.out.record.tick
  go_wp2_with fail
  refine (bs_num H1.out d.tick (by omega) (by simp [be_length] <;> omega)).mono ?_
  rintro e W2 ⟨rfl, hq⟩
  have H2 : Aside (BS L b g (d.toV bb ll oo) ([6] ++ be 8 d.tick) w W2) := hq
  clear H1 hq cg c0 c4
  have cg := H2.out.box
  have c0 : W2.cell? ⟨L, 0, none⟩ = some (.int .i64 6) := by rw [← HKD.out]; exact H2.out.record.kind
  have cw : W2.cell? ⟨b, 0, none⟩ = some (.string (bytesF d)) := by rw [bytesF, HL.out]; exact H2.out.wr.cell
  have HN := aside H2.out.new
  clear H2
  go_wp2_with fail
  go_ret2
  exact ⟨rfl, HN.out⟩
end Go.Proofs.YtfnekbfcndkjeaaGreatDoor
namespace Go.Proofs.YtfnekbfcndkjeaaGreatDoor
open Go.RowKit
def bytesA (d : RecD) : ByteArray × Int := if mayB d = true then (bytesF d, 0) else (⟨#[]⟩, 15)
set_option maxHeartbeats 2000000 in
set_option maxRecDepth 100000 in
theorem bytes_no (rv : RecV) (d : RecD) (ho : d.ok) (hm : mayB d = false) (w : World) (h : RecAt w rv d) :
    Calls Tryz.prog 39 #[.agg (recCells rv)] w fun e w' => e = .returned (.tuple #[.string ⟨#[]⟩, .int .i64 15]) ∧ Below w.heap.size w w' := by
  have hi0 : (Tryz.prog.info? 49).map (·.size) = some (recCells rv).size := by rw [recCells_size]; kernel_rfl
  obtain ⟨L, hL⟩ : ∃ x, x = w.heap.size := ⟨_, rfl⟩
  obtain ⟨w0, hw0⟩ : ∃ z, z = w.alloc (.cells (recCells rv) 49) := ⟨_, rfl⟩
  have HN0 : Aside (Below w.heap.size w w0) := by rw [hw0]; exact new_alloc _ _
  have HR0 : Aside (RecIn w0 L rv) := by rw [hw0, hL]; exact RecIn.box _ _
  have H := aside h
  have HO := aside ho
  have HM := aside hm
  clear h ho hm
  go_enter Tryz.func39, Tryz.ntmps39
  go_upto_region 1 with fail
  rw [← hw0, ← hL]
  clear hw0 hL
  go_wp2_with (first | (refine wpList_load_row rfl _ _ rfl L rfl _ (recCells rv) (0, 0) _ HR0.out Tryz.underlying49 rfl hi0 ?_) | fail)
  refine (may_any rv d HO.out w0 (H.out.on HN0.out)).mono ?_
  rintro e w1 ⟨rfl, hb⟩
  rw [HM.out]
  have HN1 := aside (HN0.out.trans (hb.mono HN0.out.size))
  clear hb hi0 HR0 HN0
  go_wp2_with fail
  go_ret2
  exact ⟨rfl, HN1.out⟩
theorem bytes_any (rv : RecV) (d : RecD) (ho : d.ok) (w : World) (h : RecAt w rv d) :
    Calls Tryz.prog 39 #[.agg (recCells rv)] w fun e w' => e = .returned (.tuple #[.string (bytesA d).1, .int .i64 (bytesA d).2]) ∧ Below w.heap.size w w' := by
  unfold bytesA
  by_cases hm : mayB d = true
  · rw [if_pos hm]
    obtain ⟨b, l, o, rfl, RB, RL, RO⟩ := h
    have hk := may_kind hm
    have h6 : d.kind = 1 ∨ d.kind = 2 ∨ d.kind = 3 ∨ d.kind = 4 ∨ d.kind = 5 ∨ d.kind = 6 := by omega
    rcases h6 with e | e | e | e | e | e
    · exact bytes_k1 b l o d ho e hm w RB RL RO
    · exact bytes_k2 b l o d ho e hm w RB RL RO
    · exact bytes_k3 b l o d ho e hm w RB RL RO
    · exact bytes_k4 b l o d ho e hm w RB RL RO
    · exact bytes_k5 b l o d ho e hm w RB RL RO
    · exact bytes_k6 b l o d ho e hm w RB RL RO
  · rw [if_neg hm]
    exact bytes_no rv d ho (by simpa using hm) w h
end Go.Proofs.YtfnekbfcndkjeaaGreatDoor
