/- A record that came in; consignref30.Turned, of whatever field. Printed by wip/gen/tls0.py. -/
import Derived.Test.YtkpmcjfolncmmaaGreatDoorSTrn2
import Derived.Test.YtkpmcjfolncmmaaGreatDoorSDrz
import Derived.ProofKit
import Derived.OpenShut
import Derived.ShutString
import Derived.ChangeOld
import Derived.Deep.Slices
set_option linter.all false
namespace Go.Proofs.YtkpmcjfolncmmaaGreatDoor
open Go.RowKit Go.Deep Go.ChangeShapes Go.WideShapes
theorem turned_any (O : Nat → Prop) (B : Nat) (rv : RecV) (d : RecD) (ho : d.ok) (x n : Int) (hx : 0 ≤ x ∧ x ≤ 255) (hn : -9223372036854775808 ≤ n ∧ n ≤ 9223372036854775807) (w : World) (hr : RecM O B w rv d) (hB : B ≤ w.heap.size) (hrows : d.barred.length + d.lots.length + d.owners.length ≤ 1000) :
    Calls Tryz.prog 17 #[.agg (recCells rv), .int .u8 x, .int .i64 n] w (TurnPost O B w) := by
  have h16 : x.tmod 16 = x % 16 := Int.tmod_eq_emod_of_nonneg hx.1
  have hk : x % 16 = 0 ∨ x % 16 = 1 ∨ x % 16 = 2 ∨ x % 16 = 3 ∨ x % 16 = 4 ∨ x % 16 = 5 ∨ x % 16 = 6 ∨ x % 16 = 7 ∨ x % 16 = 8 ∨ x % 16 = 9 ∨ x % 16 = 10 ∨ x % 16 = 11 ∨ x % 16 = 12 ∨ x % 16 = 13 ∨ x % 16 = 14 ∨ x % 16 = 15 := by omega
  rcases hk with h | h | h | h | h | h | h | h | h | h | h | h | h | h | h | h <;> rw [h] at h16
  · exact turned_0 O B rv d ho x n h16 hn w hr
  · exact turned_1 O B rv d ho x n h16 hn w hr
  · exact turned_2 O B rv d ho x n h16 hn w hr
  · exact turned_3 O B rv d ho x n h16 hn w hr
  · exact turned_4 O B rv d ho x n h16 hn w hr
  · exact turned_5 O B rv d ho x n h16 hn w hr hB hrows
  · exact turned_6 O B rv d ho x n h16 hn w hr
  · exact turned_7 O B rv d ho x n h16 hn w hr
  · exact turned_8 O B rv d ho x n h16 hn w hr
  · exact turned_9 O B rv d ho x n h16 hn w hr
  · exact turned_10 O B rv d ho x n h16 hn w hr
  · exact turned_11 O B rv d ho x n h16 hn w hr
  · exact turned_12 O B rv d ho x n h16 hn w hr
  · exact turned_13 O B rv d ho x n h16 hn w hr hB hrows
  · exact turned_14 O B rv d ho x n h16 hn w hr hB hrows
  · exact turned_15 O B rv d ho x n h16 hn w hr
theorem Tryz.cellsInt : Tryz.prog.cellsOf 3 = 1 := by kernel_rfl
theorem Tryz.cellsLot : Tryz.prog.cellsOf 68 = 2 := by kernel_rfl
theorem Tryz.cellsInts : Tryz.prog.cellsOf 31 = 1 := by kernel_rfl
theorem Tryz.cellsLots : Tryz.prog.cellsOf 36 = 1 := by kernel_rfl
theorem Tryz.cellsDig : Tryz.prog.cellsOf 33 = 32 := by kernel_rfl
theorem Tryz.cellsOut : Tryz.prog.cellsOf 35 = 3 := by kernel_rfl
theorem Tryz.cellsRec : Tryz.prog.cellsOf 38 = 49 := by kernel_rfl
section
variable {H : Type} {enc : TypeId × Value → H} {W : World} {base : Nat} {spare : Nat → Bool} {held : Bool}
theorem open_int {fuel : Nat} {cs : List Value} {x : DataW H × List MemPlace} (h : DataW.trod enc Tryz.prog W base spare held fuel 3 cs = some x) : ∃ z : Int, cs = [.int .i64 z] ∧ -9223372036854775808 ≤ z ∧ z ≤ 9223372036854775807 := by
  obtain ⟨z, e, _, hw⟩ := DataW.trod_int Tryz.underlying3 h
  simp [Lit.wf, IntKind.min, IntKind.max, IntKind.signed, IntKind.bits] at hw
  exact ⟨z, e, hw⟩
set_option maxRecDepth 100000 in
theorem open_lot {fuel : Nat} {cs : List Value} {x : DataW H × List MemPlace} (h : DataW.trod enc Tryz.prog W base spare held fuel 68 cs = some x) : ∃ a b : Int, cs = [.int .i64 a, .int .i64 b] := by
  obtain ⟨xs, k, _, _, hlen, hxl, hf⟩ := DataW.trod_struct Tryz.underlying68 h
  rw [Tryz.cellsLot] at hlen
  have hxl2 : xs.length = 2 := hxl
  have f0 : DataW.trod enc Tryz.prog W base spare held k 3 (List.take (Tryz.prog.cellsOf 3) (List.drop 0 cs)) = xs[0]? := hf 0 _ rfl
  have f1 : DataW.trod enc Tryz.prog W base spare held k 3 (List.take (Tryz.prog.cellsOf 3) (List.drop 1 cs)) = xs[1]? := hf 1 _ rfl
  rw [Tryz.cellsInt, List.getElem?_eq_getElem (by omega)] at f0 f1
  match cs, hlen with
  | [v0, v1], _ =>
    simp only [List.take, List.drop] at f0 f1
    obtain ⟨a, e0, _⟩ := open_int f0
    obtain ⟨b, e1, _⟩ := open_int f1
    simp at e0 e1
    subst e0 e1
    exact ⟨a, b, rfl⟩
theorem open_ints {fuel : Nat} {cs : List Value} {x : DataW H × List MemPlace} (h : DataW.trod enc Tryz.prog W base spare held fuel 31 cs = some x) (B : Nat) :
    ∃ a n c xs, cs = [.slice a n c] ∧ xs.length = n ∧ c ≤ maxLen ∧ RowIM (· < W.heap.size) B W (.slice a n c) xs := by
  rcases open_slice Tryz.underlying31 h with ⟨hcs, _⟩ | ⟨a, len, cap, m, n, D, Pl, hcs, _, hl, hm, hmm, _, hx⟩
  · exact ⟨none, 0, 0, [], hcs, rfl, Nat.zero_le _, none, 0, rfl, Nat.le_refl _, fun h => absurd h (Nat.lt_irrefl _)⟩
  · have hlm : len ≤ m := by rw [hmm]; split <;> omega
    have each : ∀ i, i < len → ∃ z : Int, W.cell? (a.add i) = some (.int .i64 z) := by
      intro i hi
      obtain ⟨cs', h1, h2⟩ := hx i (by omega)
      obtain ⟨z, rfl, hz⟩ := open_int h2
      rw [Tryz.cellsInt] at h1
      obtain ⟨_, _, hcell⟩ := World.cells?_some h1
      have e0 := hcell 0 (by omega)
      rw [add_add, Nat.mul_one, Nat.add_zero] at e0
      exact ⟨z, e0⟩
    obtain ⟨f, hf⟩ := choose_lt each
    have hlen : ((List.range len).map f).length = len := by simp
    refine ⟨some a, len, cap, (List.range len).map f, hcs, hlen, hm, some a, cap, by rw [hlen], by rw [hlen]; exact hl, fun h0 => ?_⟩
    rw [hlen] at h0
    obtain ⟨b, o, ea, hb, hadd⟩ := addr_block (hf 0 h0) ⟨_, (by have := hf 0 h0; rwa [show a.add 0 = a from rfl] at this)⟩
    refine ⟨b, o, by rw [ea], hb, .inl hb, fun j hj => ?_⟩
    rw [hlen] at hj
    rw [← hadd j, hf j hj, List.getD_eq_getElem?_getD, List.getElem?_map, List.getElem?_range hj]
    rfl
theorem open_lots {fuel : Nat} {cs : List Value} {x : DataW H × List MemPlace} (h : DataW.trod enc Tryz.prog W base spare held fuel 36 cs = some x) (B : Nat) :
    ∃ a n c xs, cs = [.slice a n c] ∧ xs.length = n ∧ c ≤ maxLen ∧ RowLM (· < W.heap.size) B W (.slice a n c) xs := by
  rcases open_slice Tryz.underlying36 h with ⟨hcs, _⟩ | ⟨a, len, cap, m, n, D, Pl, hcs, _, hl, hm, hmm, _, hx⟩
  · exact ⟨none, 0, 0, [], hcs, rfl, Nat.zero_le _, none, 0, rfl, Nat.le_refl _, fun h => absurd h (Nat.lt_irrefl _)⟩
  · have hlm : len ≤ m := by rw [hmm]; split <;> omega
    have each : ∀ i, i < len → ∃ z : Int × Int, W.cell? (a.add (i * 2)) = some (.int .i64 z.1) ∧ W.cell? (a.add (i * 2 + 1)) = some (.int .i64 z.2) := by
      intro i hi
      obtain ⟨cs', h1, h2⟩ := hx i (by omega)
      obtain ⟨p, q, rfl⟩ := open_lot h2
      rw [Tryz.cellsLot] at h1
      obtain ⟨_, _, hcell⟩ := World.cells?_some h1
      have e0 := hcell 0 (by omega)
      have e1 := hcell 1 (by omega)
      rw [add_add, Nat.add_zero] at e0
      rw [add_add] at e1
      exact ⟨(p, q), e0, e1⟩
    have : Inhabited (Int × Int) := ⟨(0, 0)⟩
    obtain ⟨f, hf⟩ := choose_lt each
    have hlen : ((List.range len).map f).length = len := by simp
    refine ⟨some a, len, cap, (List.range len).map f, hcs, hlen, hm, some a, cap, by rw [hlen], by rw [hlen]; exact hl, fun h0 => ?_⟩
    rw [hlen] at h0
    obtain ⟨b, o, ea, hb, hadd⟩ := addr_block (hf 0 h0).1 ⟨_, (by have := (hf 0 h0).1; rwa [show a.add (0 * 2) = a from rfl] at this)⟩
    refine ⟨b, o, by rw [ea], hb, .inl hb, fun j hj => ?_⟩
    rw [hlen] at hj
    rw [← hadd (j * 2), Nat.add_assoc, ← hadd (j * 2 + 1), (hf j hj).1, (hf j hj).2, List.getD_eq_getElem?_getD, List.getElem?_map, List.getElem?_range hj]
    exact ⟨rfl, rfl⟩
theorem open_dig {fuel : Nat} {cs : List Value} {x : DataW H × List MemPlace} (h : DataW.trod enc Tryz.prog W base spare held fuel 33 cs = some x) : ∃ l : List Int, cs = l.map (Value.int .u8) ∧ l.length = 32 ∧ Bs l := by
  obtain ⟨ys, m1, _, _, hlen, hys, hy⟩ := DataW.trod_array Tryz.underlying33 h
  rw [Tryz.cellsDig] at hlen
  have each : ∀ i, i < 32 → ∃ z : Int, cs[i]? = some (.int .u8 z) ∧ 0 ≤ z ∧ z ≤ 255 := by
    intro i hi
    have y := hy i hi
    rw [Tryz.cellsU8, List.getElem?_eq_getElem (by omega)] at y
    obtain ⟨z, e, hz⟩ := open_u8 y
    have e0 := congrArg (fun l => l[0]?) e
    exact ⟨z, by simpa using e0, hz⟩
  obtain ⟨f, hf⟩ := choose_lt each
  refine ⟨(List.range 32).map f, ?_, by simp, fun x hx => ?_⟩
  · apply List.ext_getElem?
    intro i
    by_cases hi : i < 32
    · rw [(hf i hi).1, List.map_map, List.getElem?_map, List.getElem?_range hi]; rfl
    · rw [List.getElem?_eq_none (by omega), List.getElem?_eq_none (by simp; omega)]
  · obtain ⟨i, hi, rfl⟩ := List.mem_map.1 hx
    exact (hf i (List.mem_range.1 hi)).2
set_option maxRecDepth 100000 in
set_option maxHeartbeats 1000000 in
theorem open_record {fuel : Nat} {cs : List Value} {x : DataW H × List MemPlace} (h : DataW.trod enc Tryz.prog W base spare held fuel 38 cs = some x) (B : Nat) :
    ∃ (d : RecD) (ba la oa : Option Addr) (bn bc ln lc on oc : Nat), cs = (recCells (d.toV (.slice ba bn bc) (.slice la ln lc) (.slice oa on oc))).toList ∧ d.barred.length = bn ∧ d.lots.length = ln ∧ d.owners.length = on ∧ bc ≤ maxLen ∧ lc ≤ maxLen ∧ oc ≤ maxLen ∧
      RowIM (· < W.heap.size) B W (.slice ba bn bc) d.barred ∧ RowLM (· < W.heap.size) B W (.slice la ln lc) d.lots ∧ RowIM (· < W.heap.size) B W (.slice oa on oc) d.owners ∧
      ∀ (b : List Int) (l : List (Int × Int)) (o : List Int), b.length + l.length + o.length ≤ 1099511627776 → RecD.ok { d with barred := b, lots := l, owners := o } := by
  obtain ⟨xs, k, _, _, hlen, hxl, hf⟩ := DataW.trod_struct Tryz.underlying38 h
  rw [Tryz.cellsRec] at hlen
  have hxl16 : xs.length = 16 := hxl
  have f0 : DataW.trod enc Tryz.prog W base spare held k 3 (List.take (Tryz.prog.cellsOf 3) (List.drop 0 cs)) = xs[0]? := hf 0 _ rfl
  have f1 : DataW.trod enc Tryz.prog W base spare held k 3 (List.take (Tryz.prog.cellsOf 3) (List.drop 1 cs)) = xs[1]? := hf 1 _ rfl
  have f2 : DataW.trod enc Tryz.prog W base spare held k 3 (List.take (Tryz.prog.cellsOf 3) (List.drop 2 cs)) = xs[2]? := hf 2 _ rfl
  have f3 : DataW.trod enc Tryz.prog W base spare held k 3 (List.take (Tryz.prog.cellsOf 3) (List.drop 3 cs)) = xs[3]? := hf 3 _ rfl
  have f4 : DataW.trod enc Tryz.prog W base spare held k 3 (List.take (Tryz.prog.cellsOf 3) (List.drop 4 cs)) = xs[4]? := hf 4 _ rfl
  have f5 : DataW.trod enc Tryz.prog W base spare held k 31 (List.take (Tryz.prog.cellsOf 31) (List.drop 5 cs)) = xs[5]? := hf 5 _ rfl
  have f6 : DataW.trod enc Tryz.prog W base spare held k 33 (List.take (Tryz.prog.cellsOf 33) (List.drop 6 cs)) = xs[6]? := hf 6 _ rfl
  have f7 : DataW.trod enc Tryz.prog W base spare held k 24 (List.take (Tryz.prog.cellsOf 24) (List.drop 38 cs)) = xs[7]? := hf 7 _ rfl
  have f8 : DataW.trod enc Tryz.prog W base spare held k 24 (List.take (Tryz.prog.cellsOf 24) (List.drop 39 cs)) = xs[8]? := hf 8 _ rfl
  have f9 : DataW.trod enc Tryz.prog W base spare held k 35 (List.take (Tryz.prog.cellsOf 35) (List.drop 40 cs)) = xs[9]? := hf 9 _ rfl
  have f10 : DataW.trod enc Tryz.prog W base spare held k 3 (List.take (Tryz.prog.cellsOf 3) (List.drop 43 cs)) = xs[10]? := hf 10 _ rfl
  have f11 : DataW.trod enc Tryz.prog W base spare held k 3 (List.take (Tryz.prog.cellsOf 3) (List.drop 44 cs)) = xs[11]? := hf 11 _ rfl
  have f12 : DataW.trod enc Tryz.prog W base spare held k 3 (List.take (Tryz.prog.cellsOf 3) (List.drop 45 cs)) = xs[12]? := hf 12 _ rfl
  have f13 : DataW.trod enc Tryz.prog W base spare held k 3 (List.take (Tryz.prog.cellsOf 3) (List.drop 46 cs)) = xs[13]? := hf 13 _ rfl
  have f14 : DataW.trod enc Tryz.prog W base spare held k 36 (List.take (Tryz.prog.cellsOf 36) (List.drop 47 cs)) = xs[14]? := hf 14 _ rfl
  have f15 : DataW.trod enc Tryz.prog W base spare held k 31 (List.take (Tryz.prog.cellsOf 31) (List.drop 48 cs)) = xs[15]? := hf 15 _ rfl
  rw [Tryz.cellsInt] at f0 f1 f2 f3 f4 f10 f11 f12 f13
  rw [Tryz.cellsInts] at f5 f15
  rw [Tryz.cellsDig] at f6
  rw [Tryz.cellsU64] at f7 f8
  rw [Tryz.cellsOut] at f9
  rw [Tryz.cellsLots] at f14
  rw [List.getElem?_eq_getElem (by omega)] at f0 f1 f2 f3 f4 f5 f6 f7 f8 f9 f10 f11 f12 f13 f14 f15
  match cs, hlen with
  | v0 :: v1 :: v2 :: v3 :: v4 :: v5 :: v6 :: v7 :: v8 :: v9 :: v10 :: v11 :: v12 :: v13 :: v14 :: v15 :: v16 :: v17 :: v18 :: v19 :: v20 :: v21 :: v22 :: v23 :: v24 :: v25 :: v26 :: v27 :: v28 :: v29 :: v30 :: v31 :: v32 :: v33 :: v34 :: v35 :: v36 :: v37 :: v38 :: v39 :: v40 :: v41 :: v42 :: v43 :: v44 :: v45 :: v46 :: v47 :: v48 :: [], _ =>
    simp only [List.take, List.drop] at f0 f1 f2 f3 f4 f5 f6 f7 f8 f9 f10 f11 f12 f13 f14 f15
    obtain ⟨kd, e0, r0⟩ := open_int f0
    obtain ⟨rd, e1, r1⟩ := open_int f1
    obtain ⟨lt, e2, r2⟩ := open_int f2
    obtain ⟨ca, e3, r3⟩ := open_int f3
    obtain ⟨tk, e4, r4⟩ := open_int f4
    obtain ⟨cr, e10, r10⟩ := open_int f10
    obtain ⟨cm, e11, r11⟩ := open_int f11
    obtain ⟨rl, e12, r12⟩ := open_int f12
    obtain ⟨sc, e13, r13⟩ := open_int f13
    obtain ⟨bd, e7, r7⟩ := open_u64 f7
    obtain ⟨nc, e8, r8⟩ := open_u64 f8
    obtain ⟨ba, bn, bc, bx, e5, bl, bm, hb⟩ := open_ints f5 B
    obtain ⟨la, ln, lc, lx, e14, ll, lm, hlo⟩ := open_lots f14 B
    obtain ⟨oa, on, oc, ox, e15, ol, om, ho⟩ := open_ints f15 B
    obtain ⟨dg, e6, dl, db⟩ := open_dig f6
    obtain ⟨ys, k2, _, _, hlen2, hyl, hg⟩ := DataW.trod_struct Tryz.underlying35 f9
    have hyl3 : ys.length = 3 := hyl
    have g0 : DataW.trod enc Tryz.prog W base spare held k2 3 (List.take (Tryz.prog.cellsOf 3) (List.drop 0 [v40, v41, v42])) = ys[0]? := hg 0 _ rfl
    have g1 : DataW.trod enc Tryz.prog W base spare held k2 3 (List.take (Tryz.prog.cellsOf 3) (List.drop 1 [v40, v41, v42])) = ys[1]? := hg 1 _ rfl
    have g2 : DataW.trod enc Tryz.prog W base spare held k2 24 (List.take (Tryz.prog.cellsOf 24) (List.drop 2 [v40, v41, v42])) = ys[2]? := hg 2 _ rfl
    rw [Tryz.cellsInt] at g0 g1
    rw [Tryz.cellsU64] at g2
    rw [List.getElem?_eq_getElem (by omega)] at g0 g1 g2
    simp only [List.take, List.drop] at g0 g1 g2
    obtain ⟨st, s0, t0⟩ := open_int g0
    obtain ⟨wn, s1, t1⟩ := open_int g1
    obtain ⟨pr, s2, t2⟩ := open_u64 g2
    simp only [List.cons.injEq, and_true] at e0 e1 e2 e3 e4 e5 e7 e8 e10 e11 e12 e13 e14 e15 s0 s1 s2
    subst e0 e1 e2 e3 e4 e5 e7 e8 e10 e11 e12 e13 e14 e15 s0 s1 s2
    match dg, dl with
    | d0 :: d1 :: d2 :: d3 :: d4 :: d5 :: d6 :: d7 :: d8 :: d9 :: d10 :: d11 :: d12 :: d13 :: d14 :: d15 :: d16 :: d17 :: d18 :: d19 :: d20 :: d21 :: d22 :: d23 :: d24 :: d25 :: d26 :: d27 :: d28 :: d29 :: d30 :: d31 :: [], _ =>
      simp only [List.map, List.cons.injEq, and_true] at e6
      obtain ⟨rfl, rfl, rfl, rfl, rfl, rfl, rfl, rfl, rfl, rfl, rfl, rfl, rfl, rfl, rfl, rfl, rfl, rfl, rfl, rfl, rfl, rfl, rfl, rfl, rfl, rfl, rfl, rfl, rfl, rfl, rfl, rfl⟩ := e6
      refine ⟨{ kind := kd, round := rd, lot := lt, carrier := ca, tick := tk, barred := bx, dig := [d0, d1, d2, d3, d4, d5, d6, d7, d8, d9, d10, d11, d12, d13, d14, d15, d16, d17, d18, d19, d20, d21, d22, d23, d24, d25, d26, d27, d28, d29, d30, d31], bid := bd, nonce := nc, state := st, winner := wn, price := pr, carriers := cr, commit := cm, reveal := rl, scheme := sc, lots := lx, owners := ox }, ba, la, oa, bn, bc, ln, lc, on, oc, rfl, bl, ll, ol, bm, lm, om, hb, hlo, ho, fun b l o hl => ⟨rfl, db, r4, r7, r8, t2, r0, r2, r3, r10, r11, r12, r13, hl⟩⟩
end
end Go.Proofs.YtkpmcjfolncmmaaGreatDoor
