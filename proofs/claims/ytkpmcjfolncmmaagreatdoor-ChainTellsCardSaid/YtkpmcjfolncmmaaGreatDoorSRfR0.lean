/- What the document's bare leaves of a record; small laws. Printed by wip/gen/refr.py. -/
import Derived.Test.YtkpmcjfolncmmaaGreatDoorSRef5
import Derived.Test.YtkpmcjfolncmmaaGreatDoorSMayA
import Derived.Test.YtkpmcjfolncmmaaGreatDoorSPln2
import Derived.Deep.RegionHeld3
set_option linter.all false
namespace Go.Proofs.YtkpmcjfolncmmaaGreatDoor
open Go.RowKit
def bareD (d : RecD) : RecD :=
  if d.kind = 1 then { kind := 1, carriers := d.carriers, commit := d.commit, reveal := d.reveal, scheme := d.scheme, lots := d.lots, owners := d.owners }
  else if d.kind = 2 then { kind := 2, round := d.round, lot := d.lot, tick := d.tick, barred := d.barred }
  else if d.kind = 3 then { kind := 3, round := d.round, carrier := d.carrier, dig := d.dig, tick := d.tick }
  else if d.kind = 4 then { kind := 4, round := d.round, carrier := d.carrier, bid := d.bid, nonce := d.nonce, tick := d.tick }
  else if d.kind = 5 then { kind := 5, round := d.round, state := d.state, winner := d.winner, price := d.price, tick := d.tick }
  else { kind := 6, tick := d.tick }
theorem bare1 {d : RecD} (h : d.kind = 1) : bareD d = { kind := 1, carriers := d.carriers, commit := d.commit, reveal := d.reveal, scheme := d.scheme, lots := d.lots, owners := d.owners } := by rw [bareD, if_pos h]
theorem bare2 {d : RecD} (h : d.kind = 2) : bareD d = { kind := 2, round := d.round, lot := d.lot, tick := d.tick, barred := d.barred } := by rw [bareD, if_neg (by omega), if_pos h]
theorem bare3 {d : RecD} (h : d.kind = 3) : bareD d = { kind := 3, round := d.round, carrier := d.carrier, dig := d.dig, tick := d.tick } := by rw [bareD, if_neg (by omega), if_neg (by omega), if_pos h]
theorem bare4 {d : RecD} (h : d.kind = 4) : bareD d = { kind := 4, round := d.round, carrier := d.carrier, bid := d.bid, nonce := d.nonce, tick := d.tick } := by rw [bareD, if_neg (by omega), if_neg (by omega), if_neg (by omega), if_pos h]
theorem bare5 {d : RecD} (h : d.kind = 5) : bareD d = { kind := 5, round := d.round, state := d.state, winner := d.winner, price := d.price, tick := d.tick } := by rw [bareD, if_neg (by omega), if_neg (by omega), if_neg (by omega), if_neg (by omega), if_pos h]
theorem bare6 {d : RecD} (h : d.kind = 6) : bareD d = { kind := 6, tick := d.tick } := by rw [bareD, if_neg (by omega), if_neg (by omega), if_neg (by omega), if_neg (by omega), if_neg (by omega)]
theorem RecIn.putDig (f : Nat → Int) : ∀ (n k : Nat) (w : World) (L : Nat) (r : RecV), k + n = 32 → RecIn w L r → RecIn (w.setCells L (6 + k) ((List.range' k n).map fun j => Value.int .u8 (f j))) L { r with dig := fun j => if k ≤ j then f j else r.dig j }
  | 0, k, w, L, r, hk, h => by
    have e : recCells { r with dig := fun j => if k ≤ j then f j else r.dig j } = recCells r := by
      have : k = 32 := by omega
      subst this
      rfl
    show w.heap[L]? = _
    rw [e]
    exact h
  | n + 1, k, w, L, r, hk, h => by
    rw [List.range'_succ, List.map_cons, World.setCells]
    have h1 := h.setDig k (by omega) (f k)
    have h2 := RecIn.putDig f n (k + 1) _ L _ (by omega) h1
    have e : ∀ j, (if k + 1 ≤ j then f j else upD r.dig k (f k) j) = if k ≤ j then f j else r.dig j := by
      intro j
      unfold upD
      by_cases a : k + 1 ≤ j
      · rw [if_pos a, if_pos (by omega)]
      · rw [if_neg a]
        by_cases b : j = k
        · rw [if_pos b, if_pos (by omega), b]
        · rw [if_neg b, if_neg (by omega)]
    simp only [e] at h2
    exact h2
theorem keeps_setCells {L : Nat} {w : World} : ∀ (vs : List Value) (o : Nat) (u : World), Keeps (· ≠ L) w u → Keeps (· ≠ L) w (u.setCells L o vs)
  | [], _, _, hu => hu
  | v :: vs, o, u, hu => keeps_setCells vs _ _ (hu.setCell (p := ⟨L, o, none⟩) (.inr (fun e => e rfl)) v)
theorem store_dig {w : World} {L : Nat} {r : RecV} (h : RecIn w L r) (f : Nat → Int) : ∃ wz, (Instr.storeAt 33 (.pointer (some ⟨L, 6, none⟩)) (.agg ((List.range 32).map fun j => Value.int .u8 (f j)).toArray)).run Tryz.prog w = .ok () wz ∧ RecIn wz L { r with dig := f } ∧ Keeps (· ≠ L) w wz := by
  refine ⟨w.setCells L 6 ((List.range 32).map fun j => Value.int .u8 (f j)), ?_, ?_, keeps_setCells _ _ _ (Keeps.refl _ _)⟩
  · have := run_storeAt_mid (P := Tryz.prog) w L 6 33 ((List.range 32).map fun j => Value.int .u8 (f j)).toArray (by simpa using h.there) (by rw [List.size_toArray, List.length_map, List.length_range]; kernel_rfl) (by simp [show ∀ k n, (Value.int k n).oneCell' = true from fun _ _ => rfl])
    simpa using this
  · have := RecIn.putDig f 32 0 w L r rfl h
    rw [← List.range_eq_range'] at this
    simpa using this
theorem RecIn.outRange {w : World} {L : Nat} {r : RecV} (h : RecIn w L r) : w.rangeAt L 40 [.int .i64 r.state, .int .i64 r.winner, .int .u64 r.price] := by
  intro j v hv
  match j, hv with
  | 0, hv => rw [h.state]; exact hv
  | 1, hv => rw [h.winner]; exact hv
  | 2, hv => rw [h.price]; exact hv
  | _ + 3, hv => simp at hv
theorem store_out {w : World} {L : Nat} {r : RecV} (h : RecIn w L r) (s x p : Int) : ∃ wz, (Instr.storeAt 35 (.pointer (some ⟨L, 40, none⟩)) (.agg #[.int .i64 s, .int .i64 x, .int .u64 p])).run Tryz.prog w = .ok () wz ∧ RecIn wz L { r with state := s, winner := x, price := p } ∧ Keeps (· ≠ L) w wz := by
  refine ⟨w.setCells L 40 [.int .i64 s, .int .i64 x, .int .u64 p], ?_, ((h.setState s).setWinner x).setPrice p, keeps_setCells _ _ _ (Keeps.refl _ _)⟩
  have ht : w.there L 40 3 := fun j hj => by
    match j, hj with
    | 0, _ => exact ⟨by rw [h.state]; rfl, h.free _⟩
    | 1, _ => exact ⟨by rw [h.winner]; rfl, h.free _⟩
    | 2, _ => exact ⟨by rw [h.price]; rfl, h.free _⟩
    | _ + 3, h => omega
  exact run_storeAt_mid (P := Tryz.prog) w L 40 35 #[.int .i64 s, .int .i64 x, .int .u64 p] ht (by kernel_rfl) (by simp [Value.oneCell'])
theorem storeAt_cell {P : Program} (w : World) (b o : Nat) (ty : TypeId) (v : Value) (hs : (w.cell? ⟨b, o, none⟩).isSome = true) (hf : w.frozen? ⟨b, o, none⟩ = false) (hi : (P.info? ty).map (·.size) = some 1) (h1 : v.oneCell' = true) :
    (Instr.storeAt ty (.pointer (some ⟨b, o, none⟩)) v).run P w = .ok () (w.setCell ⟨b, o, none⟩ v) := by
  have := run_storeCells_cells (P := P) b o [v] 0 w (fun j hj => by simp at hj; subst hj; simpa using hs) (fun j hj => by simp at hj; subst hj; simpa using hf) (fun x hx => by simp at hx; subst hx; exact h1)
  have hc : v.cells = #[v] := by cases v <;> first | rfl | cases h1
  have hv : (storeVar ty ⟨b, o, none⟩ v).run P w = .ok () (w.setCell ⟨b, o, none⟩ v) := by
    cases hq : P.info? ty with
    | none => simp [hq] at hi
    | some i =>
      have hz : i.size = 1 := by simpa [hq] using hi
      simp only [Nat.add_zero, World.setCells] at this
      simp [storeVar, sizeOf, typeInfo, hq, hc, hz, this]
  simp only [Instr.storeAt, Instr.sureAddr, Sem.run_bind, Sem.run_pure, Result.andThen_ok, hv]
theorem step_store_by {P : Program} {ops : Array Oper} {o : Oper} {a : Act} {K : Act → World → Prop} {Q : Exit → Act → World → Prop} {E' : Prop} {w w1 : World} (hgd : o.guard = none) (ty : TypeId) (x y : Operand) (ho : o.op = .store ty x y)
    (p v : Value) (hx : a.eval x = p) (hy : a.eval y = v) (hr : (Instr.storeAt ty p v).run P w = .ok () w1) (h : K (a.put o.dst undef) w1) :
    if Region.wanted o (yielded ops a.tmps) = true then Oper.wp P o a w K Q else E' := by
  have hw : Region.wanted o (yielded ops a.tmps) = true := by simp [Region.wanted, hgd]
  rw [if_pos hw]
  unfold Oper.wp execOp
  simp only [ho, hx, hy, Sem.run_bind, hr, Result.andThen_ok, Sem.run_pure]
  exact h
def BareRf (d : RecD) (w : World) (e : Ending) (w' : World) : Prop :=
  ∃ rv, e = .returned (.agg (recCells rv)) ∧ RecAt w' rv (bareD d) ∧ Below w.heap.size w w'
end Go.Proofs.YtkpmcjfolncmmaaGreatDoor
namespace Go.Proofs.YtkpmcjfolncmmaaGreatDoor
open Go.RowKit
set_option maxHeartbeats 40000000 in
set_option maxRecDepth 100000 in
theorem bare_k1 (rv : RecV) (d : RecD) (hkd : d.kind = 1) (w : World) (h : RecAt w rv d) :
    Calls Tryz.prog 47 #[.agg (recCells rv)] w (BareRf d w) := by
  obtain ⟨b, l, o, rfl, hb, hl, hw⟩ := h
  have HRB := aside hb
  have HRL := aside hl
  have HRW := aside hw
  obtain ⟨ab, cb, rfl, _, _⟩ := hb
  obtain ⟨al, cl, rfl, _, _⟩ := hl
  obtain ⟨ao, co, rfl, _, _⟩ := hw
  have HKD := aside hkd
  clear hkd
  go_enter Tryz.func47, Tryz.ntmps47
  go_upto_region 1 with fail
  rw [zR]
  obtain ⟨wb, hwb⟩ : ∃ z, z = w.alloc (.cells (recCells (d.toV (.slice ab d.barred.length cb) (.slice al d.lots.length cl) (.slice ao d.owners.length co))) 38) := ⟨_, rfl⟩
  obtain ⟨wa, hwa⟩ : ∃ z, z = wb.alloc (.cells (recCells {}) 38) := ⟨_, rfl⟩
  have HSB : Aside (wb.heap.size = w.heap.size + 1) := by rw [hwb]; simp [Aside]
  have HSA : Aside (wa.heap.size = w.heap.size + 1 + 1) := by rw [hwa]; simp [Aside, HSB.out]
  have HNa : Aside (Below w.heap.size w wa) := by rw [hwa, hwb]; exact new_trans (new_alloc _ _) (new_alloc _ _)
  have HXa : Aside (RecIn wa w.heap.size (d.toV (.slice ab d.barred.length cb) (.slice al d.lots.length cl) (.slice ao d.owners.length co))) := by rw [hwa, hwb]; exact (RecIn.box w _).new (new_alloc _ _)
  have HBa : Aside (RecIn wa (w.heap.size + 1) {}) := by rw [hwa, ← HSB.out]; exact RecIn.box wb {}
  obtain ⟨R, hR⟩ : ∃ x, x = w.heap.size + 1 := ⟨_, rfl⟩
  obtain ⟨X, hX⟩ : ∃ x, x = w.heap.size := ⟨_, rfl⟩
  rw [← hwb, ← hwa, ← hR, ← hX]
  rw [← hR] at HBa
  rw [← hX] at HXa
  have HRE := aside hR
  have HXE := aside hX
  clear hwb hwa hR hX
  obtain ⟨w0, hw0⟩ : ∃ z, z = wa.alloc (.cells (recCells { kind := 1 }) 38) := ⟨_, rfl⟩
  have HST : Aside ((Instr.storeAt 38 (.pointer (some ⟨wa.heap.size, 0, none⟩)) (.agg (recCells { kind := 1 }))).run Tryz.prog (wa.alloc (.cells (recCells {}) 38)) = .ok () w0) := by
    rw [Aside, hw0]
    exact storeAt_fresh wa 38 (recCells {}) _ (by rw [recCells_size]; kernel_rfl) rfl (recCells_one _ rfl rfl rfl)
  have HW0 := aside hw0
  clear hw0
  have c0 : wa.cell? ⟨X, 0, none⟩ = some (.int .i64 1) := by rw [← HKD.out]; exact HXa.out.kind
  go_upto_region 2 with (first
    | (refine wpList_build_by rfl 38 _ rfl [(0, .int .i64 1)] rfl _ (build_k _ _) ?_)
    | (refine wpList_store_by rfl 38 _ _ rfl _ _ rfl rfl HST.out ?_)
    | fail)
  clear c0
  have hw0 := HW0.out
  have hR := HRE.out
  have hX := HXE.out
  obtain ⟨L, hL⟩ : ∃ x, x = wa.heap.size := ⟨_, rfl⟩
  have HN0 : Aside (Below w.heap.size w w0) := by rw [hw0]; exact new_trans HNa.out (new_alloc _ _)
  have HR0 : Aside (RecIn w0 L { kind := 1 }) := by rw [hw0, hL]; exact RecIn.box _ _
  have HB0 : Aside (RecIn w0 R {}) := by rw [hw0]; exact HBa.out.new (new_alloc _ _)
  have HX0 : Aside (RecIn w0 X (d.toV (.slice ab d.barred.length cb) (.slice al d.lots.length cl) (.slice ao d.owners.length co))) := by rw [hw0]; exact HXa.out.new (new_alloc _ _)
  have hsa := HSA.out
  have hXL : X ≠ L := by omega
  have hRL : R ≠ L := by omega
  have hLw : w.heap.size ≤ L := by omega
  have hRw : w.heap.size ≤ R := by omega
  rw [← hL]
  clear hw0 hR hX HRE HXE hL hsa HSA HSB HNa HBa HXa HST HW0
  have c0 : w0.cell? ⟨X, 0, none⟩ = some (.int .i64 1) := by rw [← HKD.out]; exact HX0.out.kind
  go_upto_region 4 with fail
  clear c0
  have hx0 : RecIn w0.drew X (d.toV (.slice ab d.barred.length cb) (.slice al d.lots.length cl) (.slice ao d.owners.length co)) := HX0.out.drew
  have hr0 : RecIn w0.drew L { kind := 1 } := HR0.out.drew
  have hn0 : Below w.heap.size w w0.drew := HN0.out.trans ((new_drew w0).mono HN0.out.size)
  have hb0 : RecIn w0.drew R {} := HB0.out.drew
  obtain ⟨w1, hw1⟩ : ∃ z, z = (w0.drew).setCell ⟨L, 43, none⟩ (.int .i64 d.carriers) := ⟨_, rfl⟩
  have HST1 : Aside ((Instr.storeAt 3 (.pointer (some ⟨L, 43, none⟩)) (.int .i64 d.carriers)).run Tryz.prog w0.drew = .ok () w1) := by
    rw [hw1]; exact storeAt_cell w0.drew L 43 3 (.int .i64 d.carriers) (by rw [hr0.carriers]; rfl) (hr0.free _) (by kernel_rfl) rfl
  have hx1 : RecIn w1 X (d.toV (.slice ab d.barred.length cb) (.slice al d.lots.length cl) (.slice ao d.owners.length co)) := by rw [hw1]; exact hx0.other hXL _
  have hr1 : RecIn w1 L { kind := 1, carriers := d.carriers } := by rw [hw1]; exact hr0.setCarriers d.carriers
  have hn1 : Below w.heap.size w w1 := by rw [hw1]; exact hn0.setCell (p := ⟨L, 43, none⟩) hLw _
  have hb1 : RecIn w1 R {} := by rw [hw1]; exact hb0.other hRL _
  have HX1 := aside hx1
  obtain ⟨w2, hw2⟩ : ∃ z, z = w1.setCell ⟨L, 44, none⟩ (.int .i64 d.commit) := ⟨_, rfl⟩
  have HST2 : Aside ((Instr.storeAt 3 (.pointer (some ⟨L, 44, none⟩)) (.int .i64 d.commit)).run Tryz.prog w1 = .ok () w2) := by
    rw [hw2]; exact storeAt_cell w1 L 44 3 (.int .i64 d.commit) (by rw [hr1.commit]; rfl) (hr1.free _) (by kernel_rfl) rfl
  have hx2 : RecIn w2 X (d.toV (.slice ab d.barred.length cb) (.slice al d.lots.length cl) (.slice ao d.owners.length co)) := by rw [hw2]; exact hx1.other hXL _
  have hr2 : RecIn w2 L { kind := 1, carriers := d.carriers, commit := d.commit } := by rw [hw2]; exact hr1.setCommit d.commit
  have hn2 : Below w.heap.size w w2 := by rw [hw2]; exact hn1.setCell (p := ⟨L, 44, none⟩) hLw _
  have hb2 : RecIn w2 R {} := by rw [hw2]; exact hb1.other hRL _
  have HX2 := aside hx2
  obtain ⟨w3, hw3⟩ : ∃ z, z = w2.setCell ⟨L, 45, none⟩ (.int .i64 d.reveal) := ⟨_, rfl⟩
  have HST3 : Aside ((Instr.storeAt 3 (.pointer (some ⟨L, 45, none⟩)) (.int .i64 d.reveal)).run Tryz.prog w2 = .ok () w3) := by
    rw [hw3]; exact storeAt_cell w2 L 45 3 (.int .i64 d.reveal) (by rw [hr2.reveal]; rfl) (hr2.free _) (by kernel_rfl) rfl
  have hx3 : RecIn w3 X (d.toV (.slice ab d.barred.length cb) (.slice al d.lots.length cl) (.slice ao d.owners.length co)) := by rw [hw3]; exact hx2.other hXL _
  have hr3 : RecIn w3 L { kind := 1, carriers := d.carriers, commit := d.commit, reveal := d.reveal } := by rw [hw3]; exact hr2.setReveal d.reveal
  have hn3 : Below w.heap.size w w3 := by rw [hw3]; exact hn2.setCell (p := ⟨L, 45, none⟩) hLw _
  have hb3 : RecIn w3 R {} := by rw [hw3]; exact hb2.other hRL _
  have HX3 := aside hx3
  obtain ⟨w4, hw4⟩ : ∃ z, z = w3.setCell ⟨L, 46, none⟩ (.int .i64 d.scheme) := ⟨_, rfl⟩
  have HST4 : Aside ((Instr.storeAt 3 (.pointer (some ⟨L, 46, none⟩)) (.int .i64 d.scheme)).run Tryz.prog w3 = .ok () w4) := by
    rw [hw4]; exact storeAt_cell w3 L 46 3 (.int .i64 d.scheme) (by rw [hr3.scheme]; rfl) (hr3.free _) (by kernel_rfl) rfl
  have hx4 : RecIn w4 X (d.toV (.slice ab d.barred.length cb) (.slice al d.lots.length cl) (.slice ao d.owners.length co)) := by rw [hw4]; exact hx3.other hXL _
  have hr4 : RecIn w4 L { kind := 1, carriers := d.carriers, commit := d.commit, reveal := d.reveal, scheme := d.scheme } := by rw [hw4]; exact hr3.setScheme d.scheme
  have hn4 : Below w.heap.size w w4 := by rw [hw4]; exact hn3.setCell (p := ⟨L, 46, none⟩) hLw _
  have hb4 : RecIn w4 R {} := by rw [hw4]; exact hb3.other hRL _
  have HX4 := aside hx4
  obtain ⟨w5, hw5⟩ : ∃ z, z = w4.setCell ⟨L, 47, none⟩ (.slice al d.lots.length cl) := ⟨_, rfl⟩
  have HST5 : Aside ((Instr.storeAt 36 (.pointer (some ⟨L, 47, none⟩)) (.slice al d.lots.length cl)).run Tryz.prog w4 = .ok () w5) := by
    rw [hw5]; exact storeAt_cell w4 L 47 36 (.slice al d.lots.length cl) (by rw [hr4.lots]; rfl) (hr4.free _) (by kernel_rfl) rfl
  have hx5 : RecIn w5 X (d.toV (.slice ab d.barred.length cb) (.slice al d.lots.length cl) (.slice ao d.owners.length co)) := by rw [hw5]; exact hx4.other hXL _
  have hr5 : RecIn w5 L { kind := 1, carriers := d.carriers, commit := d.commit, reveal := d.reveal, scheme := d.scheme, lots := (.slice al d.lots.length cl) } := by rw [hw5]; exact hr4.setLots (.slice al d.lots.length cl)
  have hn5 : Below w.heap.size w w5 := by rw [hw5]; exact hn4.setCell (p := ⟨L, 47, none⟩) hLw _
  have hb5 : RecIn w5 R {} := by rw [hw5]; exact hb4.other hRL _
  have HX5 := aside hx5
  obtain ⟨w6, hw6⟩ : ∃ z, z = w5.setCell ⟨L, 48, none⟩ (.slice ao d.owners.length co) := ⟨_, rfl⟩
  have HST6 : Aside ((Instr.storeAt 31 (.pointer (some ⟨L, 48, none⟩)) (.slice ao d.owners.length co)).run Tryz.prog w5 = .ok () w6) := by
    rw [hw6]; exact storeAt_cell w5 L 48 31 (.slice ao d.owners.length co) (by rw [hr5.owners]; rfl) (hr5.free _) (by kernel_rfl) rfl
  have hx6 : RecIn w6 X (d.toV (.slice ab d.barred.length cb) (.slice al d.lots.length cl) (.slice ao d.owners.length co)) := by rw [hw6]; exact hx5.other hXL _
  have hr6 : RecIn w6 L { kind := 1, carriers := d.carriers, commit := d.commit, reveal := d.reveal, scheme := d.scheme, lots := (.slice al d.lots.length cl), owners := (.slice ao d.owners.length co) } := by rw [hw6]; exact hr5.setOwners (.slice ao d.owners.length co)
  have hn6 : Below w.heap.size w w6 := by rw [hw6]; exact hn5.setCell (p := ⟨L, 48, none⟩) hLw _
  have hb6 : RecIn w6 R {} := by rw [hw6]; exact hb5.other hRL _
  have HX6 := aside hx6
  have HZR := aside hr6
  have HZN := aside hn6
  have HZB := aside hb6
  have HXD := aside hx0
  clear hx0 hr0 hn0 hb0 hx1 hr1 hn1 hb1 hw1 hx2 hr2 hn2 hb2 hw2 hx3 hr3 hn3 hb3 hw3 hx4 hr4 hn4 hb4 hw4 hx5 hr5 hn5 hb5 hw5 hx6 hr6 hn6 hb6 hw6
  refine wp_region_held_drew (S := fun W => RecIn W X (d.toV (.slice ab d.barred.length cb) (.slice al d.lots.length cl) (.slice ao d.owners.length co))) (by kernel_rfl) HXD.out (fun hHeld => ?_)
  refine wpAnyH_take (i := 0) (oi := _) (v := .pointer (some ⟨X, 43, none⟩)) rfl (by kernel_rfl) (by kernel_rfl) (by kernel_rfl) (fun _ _ _ h => h) (Or.inl ⟨by rfl, ?_⟩) hHeld ?_
  · intro W hSw
    go_simp
  simp only [Act.put, ps]
  refine wpAnyH_take (i := 1) (oi := _) (v := .int .i64 d.carriers) rfl (by kernel_rfl) (by kernel_rfl) (by kernel_rfl) (fun _ _ _ h => h) (Or.inl ⟨by rfl, ?_⟩) hHeld ?_
  · intro W hSw
    have c : W.cell? ⟨X, 43, none⟩ = some (.int .i64 d.carriers) := hSw.carriers
    go_simp
  simp only [Act.put, ps]
  refine wpAnyH_take (i := 2) (oi := _) (v := .pointer (some ⟨X, 44, none⟩)) rfl (by kernel_rfl) (by kernel_rfl) (by kernel_rfl) (fun _ _ _ h => h) (Or.inl ⟨by rfl, ?_⟩) hHeld ?_
  · intro W hSw
    go_simp
  simp only [Act.put, ps]
  refine wpAnyH_take (i := 3) (oi := _) (v := .int .i64 d.commit) rfl (by kernel_rfl) (by kernel_rfl) (by kernel_rfl) (fun _ _ _ h => h) (Or.inl ⟨by rfl, ?_⟩) hHeld ?_
  · intro W hSw
    have c : W.cell? ⟨X, 44, none⟩ = some (.int .i64 d.commit) := hSw.commit
    go_simp
  simp only [Act.put, ps]
  refine wpAnyH_take (i := 4) (oi := _) (v := .pointer (some ⟨X, 45, none⟩)) rfl (by kernel_rfl) (by kernel_rfl) (by kernel_rfl) (fun _ _ _ h => h) (Or.inl ⟨by rfl, ?_⟩) hHeld ?_
  · intro W hSw
    go_simp
  simp only [Act.put, ps]
  refine wpAnyH_take (i := 5) (oi := _) (v := .int .i64 d.reveal) rfl (by kernel_rfl) (by kernel_rfl) (by kernel_rfl) (fun _ _ _ h => h) (Or.inl ⟨by rfl, ?_⟩) hHeld ?_
  · intro W hSw
    have c : W.cell? ⟨X, 45, none⟩ = some (.int .i64 d.reveal) := hSw.reveal
    go_simp
  simp only [Act.put, ps]
  refine wpAnyH_take (i := 6) (oi := _) (v := .pointer (some ⟨X, 46, none⟩)) rfl (by kernel_rfl) (by kernel_rfl) (by kernel_rfl) (fun _ _ _ h => h) (Or.inl ⟨by rfl, ?_⟩) hHeld ?_
  · intro W hSw
    go_simp
  simp only [Act.put, ps]
  refine wpAnyH_take (i := 7) (oi := _) (v := .int .i64 d.scheme) rfl (by kernel_rfl) (by kernel_rfl) (by kernel_rfl) (fun _ _ _ h => h) (Or.inl ⟨by rfl, ?_⟩) hHeld ?_
  · intro W hSw
    have c : W.cell? ⟨X, 46, none⟩ = some (.int .i64 d.scheme) := hSw.scheme
    go_simp
  simp only [Act.put, ps]
  refine wpAnyH_take (i := 8) (oi := _) (v := .pointer (some ⟨X, 47, none⟩)) rfl (by kernel_rfl) (by kernel_rfl) (by kernel_rfl) (fun _ _ _ h => h) (Or.inl ⟨by rfl, ?_⟩) hHeld ?_
  · intro W hSw
    go_simp
  simp only [Act.put, ps]
  refine wpAnyH_take (i := 9) (oi := _) (v := .slice al d.lots.length cl) rfl (by kernel_rfl) (by kernel_rfl) (by kernel_rfl) (fun _ _ _ h => h) (Or.inl ⟨by rfl, ?_⟩) hHeld ?_
  · intro W hSw
    have c : W.cell? ⟨X, 47, none⟩ = some (.slice al d.lots.length cl) := hSw.lots
    go_simp
  simp only [Act.put, ps]
  refine wpAnyH_take (i := 10) (oi := _) (v := .pointer (some ⟨X, 48, none⟩)) rfl (by kernel_rfl) (by kernel_rfl) (by kernel_rfl) (fun _ _ _ h => h) (Or.inl ⟨by rfl, ?_⟩) hHeld ?_
  · intro W hSw
    go_simp
  simp only [Act.put, ps]
  refine wpAnyH_take (i := 11) (oi := _) (v := .slice ao d.owners.length co) rfl (by kernel_rfl) (by kernel_rfl) (by kernel_rfl) (fun _ _ _ h => h) (Or.inl ⟨by rfl, ?_⟩) hHeld ?_
  · intro W hSw
    have c : W.cell? ⟨X, 48, none⟩ = some (.slice ao d.owners.length co) := hSw.owners
    go_simp
  simp only [Act.put, ps]
  refine wpAnyH_take (i := 12) (oi := _) (v := .pointer (some ⟨L, 43, none⟩)) rfl (by kernel_rfl) (by kernel_rfl) (by kernel_rfl) (fun _ _ _ h => h) (Or.inl ⟨by rfl, ?_⟩) hHeld ?_
  · intro W hSw
    go_simp
  simp only [Act.put, ps]
  refine wpAnyH_ready (rs := [13]) (by kernel_rfl) (by simp) ?_
  refine AllReadyH.cons (o := _) rfl (fun K hK => ?_) AllReadyH.nil
  refine step_store_by rfl 3 _ _ rfl _ _ rfl rfl HST1.out ?_
  refine hK.out _ _ HX1.out (fun hHeld => ?_)
  clear hK K
  try simp only [Act.put, ps]
  refine wpAnyH_take (i := 14) (oi := _) (v := .pointer (some ⟨L, 44, none⟩)) rfl (by kernel_rfl) (by kernel_rfl) (by kernel_rfl) (fun _ _ _ h => h) (Or.inl ⟨by rfl, ?_⟩) hHeld ?_
  · intro W hSw
    go_simp
  simp only [Act.put, ps]
  refine wpAnyH_ready (rs := [15]) (by kernel_rfl) (by simp) ?_
  refine AllReadyH.cons (o := _) rfl (fun K hK => ?_) AllReadyH.nil
  refine step_store_by rfl 3 _ _ rfl _ _ rfl rfl HST2.out ?_
  refine hK.out _ _ HX2.out (fun hHeld => ?_)
  clear hK K
  try simp only [Act.put, ps]
  refine wpAnyH_take (i := 16) (oi := _) (v := .pointer (some ⟨L, 45, none⟩)) rfl (by kernel_rfl) (by kernel_rfl) (by kernel_rfl) (fun _ _ _ h => h) (Or.inl ⟨by rfl, ?_⟩) hHeld ?_
  · intro W hSw
    go_simp
  simp only [Act.put, ps]
  refine wpAnyH_ready (rs := [17]) (by kernel_rfl) (by simp) ?_
  refine AllReadyH.cons (o := _) rfl (fun K hK => ?_) AllReadyH.nil
  refine step_store_by rfl 3 _ _ rfl _ _ rfl rfl HST3.out ?_
  refine hK.out _ _ HX3.out (fun hHeld => ?_)
  clear hK K
  try simp only [Act.put, ps]
  refine wpAnyH_take (i := 18) (oi := _) (v := .pointer (some ⟨L, 46, none⟩)) rfl (by kernel_rfl) (by kernel_rfl) (by kernel_rfl) (fun _ _ _ h => h) (Or.inl ⟨by rfl, ?_⟩) hHeld ?_
  · intro W hSw
    go_simp
  simp only [Act.put, ps]
  refine wpAnyH_ready (rs := [19]) (by kernel_rfl) (by simp) ?_
  refine AllReadyH.cons (o := _) rfl (fun K hK => ?_) AllReadyH.nil
  refine step_store_by rfl 3 _ _ rfl _ _ rfl rfl HST4.out ?_
  refine hK.out _ _ HX4.out (fun hHeld => ?_)
  clear hK K
  try simp only [Act.put, ps]
  refine wpAnyH_take (i := 20) (oi := _) (v := .pointer (some ⟨L, 47, none⟩)) rfl (by kernel_rfl) (by kernel_rfl) (by kernel_rfl) (fun _ _ _ h => h) (Or.inl ⟨by rfl, ?_⟩) hHeld ?_
  · intro W hSw
    go_simp
  simp only [Act.put, ps]
  refine wpAnyH_ready (rs := [21]) (by kernel_rfl) (by simp) ?_
  refine AllReadyH.cons (o := _) rfl (fun K hK => ?_) AllReadyH.nil
  refine step_store_by rfl 36 _ _ rfl _ _ rfl rfl HST5.out ?_
  refine hK.out _ _ HX5.out (fun hHeld => ?_)
  clear hK K
  try simp only [Act.put, ps]
  refine wpAnyH_take (i := 22) (oi := _) (v := .pointer (some ⟨L, 48, none⟩)) rfl (by kernel_rfl) (by kernel_rfl) (by kernel_rfl) (fun _ _ _ h => h) (Or.inl ⟨by rfl, ?_⟩) hHeld ?_
  · intro W hSw
    go_simp
  simp only [Act.put, ps]
  refine wpAnyH_ready (rs := [23]) (by kernel_rfl) (by simp) ?_
  refine AllReadyH.cons (o := _) rfl (fun K hK => ?_) AllReadyH.nil
  refine step_store_by rfl 31 _ _ rfl _ _ rfl rfl HST6.out ?_
  refine hK.out _ _ HX6.out (fun hHeld => ?_)
  clear hK K
  try simp only [Act.put, ps]
  refine wpAnyH_done (by kernel_rfl) ?_ _
  obtain ⟨r, hr⟩ : ∃ r : RecV, r = { kind := 1, carriers := d.carriers, commit := d.commit, reveal := d.reveal, scheme := d.scheme, lots := (.slice al d.lots.length cl), owners := (.slice ao d.owners.length co) } := ⟨_, rfl⟩
  have HRZ : Aside (RecIn w6 L r) := by rw [hr]; exact HZR.out
  have hone : (recCells r).all (·.oneCell') = true := by rw [hr]; exact recCells_one _ rfl rfl rfl
  have hi0 : (Tryz.prog.info? 38).map (·.size) = some (recCells r).size := by rw [recCells_size]; kernel_rfl
  obtain ⟨wf, hwf⟩ : ∃ z, z = w6.setRow R (recCells r) := ⟨_, rfl⟩
  have HBF : Aside (Below w.heap.size w wf) := by rw [hwf]; exact new_of_keeps HZN.out (keeps_setRow (K := (· ≠ R)) w6 R _ (fun h => h rfl)) hRw
  have HRF : Aside (RecIn wf R r) := by rw [hwf]; exact HZB.out.setRow _
  have HE : Aside (BareRf d w (.returned (.agg (recCells r))) wf) := by
    refine ⟨r, rfl, ?_, HBF.out⟩
    rw [hr, bare1 HKD.out]
    exact ⟨.slice none 0 0, (.slice al d.lots.length cl), (.slice ao d.owners.length co), by simp only [RecD.toV, rep_getD], RowI.nil _, HRL.out.on HBF.out, HRW.out.on HBF.out⟩
  have HWF := aside hwf
  clear hwf hr
  go_wp2_with (first
    | (refine wpList_load_row rfl _ _ rfl L rfl _ (recCells r) (0, 0) _ HRZ.out Tryz.underlying38 rfl hi0 ?_)
    | (refine wpList_store_row rfl _ _ _ rfl R (recCells r) rfl rfl 38 _ HZB.out hi0 rfl hone ?_; rw [← HWF.out])
    | fail)
  refine bodyPost_ret (results_cell_row rfl _ _ R 38 (recCells r) (0, 0) _ rfl HRF.out Tryz.underlying38 rfl hi0) rfl ?_
  exact HE.out
end Go.Proofs.YtkpmcjfolncmmaaGreatDoor
namespace Go.Proofs.YtkpmcjfolncmmaaGreatDoor
open Go.RowKit
set_option maxHeartbeats 4000000 in
set_option maxRecDepth 100000 in
theorem bare_k2 (rv : RecV) (d : RecD) (hkd : d.kind = 2) (w : World) (h : RecAt w rv d) :
    Calls Tryz.prog 47 #[.agg (recCells rv)] w (BareRf d w) := by
  obtain ⟨b, l, o, rfl, hb, hl, hw⟩ := h
  have HRB := aside hb
  have HRL := aside hl
  have HRW := aside hw
  obtain ⟨ab, cb, rfl, _, _⟩ := hb
  obtain ⟨al, cl, rfl, _, _⟩ := hl
  obtain ⟨ao, co, rfl, _, _⟩ := hw
  have HKD := aside hkd
  clear hkd
  go_enter Tryz.func47, Tryz.ntmps47
  go_upto_region 1 with fail
  rw [zR]
  obtain ⟨wb, hwb⟩ : ∃ z, z = w.alloc (.cells (recCells (d.toV (.slice ab d.barred.length cb) (.slice al d.lots.length cl) (.slice ao d.owners.length co))) 38) := ⟨_, rfl⟩
  obtain ⟨wa, hwa⟩ : ∃ z, z = wb.alloc (.cells (recCells {}) 38) := ⟨_, rfl⟩
  have HSB : Aside (wb.heap.size = w.heap.size + 1) := by rw [hwb]; simp [Aside]
  have HSA : Aside (wa.heap.size = w.heap.size + 1 + 1) := by rw [hwa]; simp [Aside, HSB.out]
  have HNa : Aside (Below w.heap.size w wa) := by rw [hwa, hwb]; exact new_trans (new_alloc _ _) (new_alloc _ _)
  have HXa : Aside (RecIn wa w.heap.size (d.toV (.slice ab d.barred.length cb) (.slice al d.lots.length cl) (.slice ao d.owners.length co))) := by rw [hwa, hwb]; exact (RecIn.box w _).new (new_alloc _ _)
  have HBa : Aside (RecIn wa (w.heap.size + 1) {}) := by rw [hwa, ← HSB.out]; exact RecIn.box wb {}
  obtain ⟨R, hR⟩ : ∃ x, x = w.heap.size + 1 := ⟨_, rfl⟩
  obtain ⟨X, hX⟩ : ∃ x, x = w.heap.size := ⟨_, rfl⟩
  rw [← hwb, ← hwa, ← hR, ← hX]
  rw [← hR] at HBa
  rw [← hX] at HXa
  have HRE := aside hR
  have HXE := aside hX
  clear hwb hwa hR hX
  obtain ⟨w0, hw0⟩ : ∃ z, z = wa.alloc (.cells (recCells { kind := 2 }) 38) := ⟨_, rfl⟩
  have HST : Aside ((Instr.storeAt 38 (.pointer (some ⟨wa.heap.size, 0, none⟩)) (.agg (recCells { kind := 2 }))).run Tryz.prog (wa.alloc (.cells (recCells {}) 38)) = .ok () w0) := by
    rw [Aside, hw0]
    exact storeAt_fresh wa 38 (recCells {}) _ (by rw [recCells_size]; kernel_rfl) rfl (recCells_one _ rfl rfl rfl)
  have HW0 := aside hw0
  clear hw0
  have c0 : wa.cell? ⟨X, 0, none⟩ = some (.int .i64 2) := by rw [← HKD.out]; exact HXa.out.kind
  go_upto_region 2 with (first
    | (refine wpList_build_by rfl 38 _ rfl [(0, .int .i64 2)] rfl _ (build_k _ _) ?_)
    | (refine wpList_store_by rfl 38 _ _ rfl _ _ rfl rfl HST.out ?_)
    | fail)
  clear c0
  have hw0 := HW0.out
  have hR := HRE.out
  have hX := HXE.out
  obtain ⟨L, hL⟩ : ∃ x, x = wa.heap.size := ⟨_, rfl⟩
  have HN0 : Aside (Below w.heap.size w w0) := by rw [hw0]; exact new_trans HNa.out (new_alloc _ _)
  have HR0 : Aside (RecIn w0 L { kind := 2 }) := by rw [hw0, hL]; exact RecIn.box _ _
  have HB0 : Aside (RecIn w0 R {}) := by rw [hw0]; exact HBa.out.new (new_alloc _ _)
  have HX0 : Aside (RecIn w0 X (d.toV (.slice ab d.barred.length cb) (.slice al d.lots.length cl) (.slice ao d.owners.length co))) := by rw [hw0]; exact HXa.out.new (new_alloc _ _)
  have hsa := HSA.out
  have hXL : X ≠ L := by omega
  have hRL : R ≠ L := by omega
  have hLw : w.heap.size ≤ L := by omega
  have hRw : w.heap.size ≤ R := by omega
  rw [← hL]
  clear hw0 hR hX HRE HXE hL hsa HSA HSB HNa HBa HXa HST HW0
  have c0 : w0.cell? ⟨X, 0, none⟩ = some (.int .i64 2) := by rw [← HKD.out]; exact HX0.out.kind
  go_upto_region 6 with fail
  clear c0
  have hx0 : RecIn w0.drew X (d.toV (.slice ab d.barred.length cb) (.slice al d.lots.length cl) (.slice ao d.owners.length co)) := HX0.out.drew
  have hr0 : RecIn w0.drew L { kind := 2 } := HR0.out.drew
  have hn0 : Below w.heap.size w w0.drew := HN0.out.trans ((new_drew w0).mono HN0.out.size)
  have hb0 : RecIn w0.drew R {} := HB0.out.drew
  obtain ⟨w1, hw1⟩ : ∃ z, z = (w0.drew).setCell ⟨L, 1, none⟩ (.int .i64 d.round) := ⟨_, rfl⟩
  have HST1 : Aside ((Instr.storeAt 3 (.pointer (some ⟨L, 1, none⟩)) (.int .i64 d.round)).run Tryz.prog w0.drew = .ok () w1) := by
    rw [hw1]; exact storeAt_cell w0.drew L 1 3 (.int .i64 d.round) (by rw [hr0.round]; rfl) (hr0.free _) (by kernel_rfl) rfl
  have hx1 : RecIn w1 X (d.toV (.slice ab d.barred.length cb) (.slice al d.lots.length cl) (.slice ao d.owners.length co)) := by rw [hw1]; exact hx0.other hXL _
  have hr1 : RecIn w1 L { kind := 2, round := d.round } := by rw [hw1]; exact hr0.setRound d.round
  have hn1 : Below w.heap.size w w1 := by rw [hw1]; exact hn0.setCell (p := ⟨L, 1, none⟩) hLw _
  have hb1 : RecIn w1 R {} := by rw [hw1]; exact hb0.other hRL _
  have HX1 := aside hx1
  obtain ⟨w2, hw2⟩ : ∃ z, z = w1.setCell ⟨L, 2, none⟩ (.int .i64 d.lot) := ⟨_, rfl⟩
  have HST2 : Aside ((Instr.storeAt 3 (.pointer (some ⟨L, 2, none⟩)) (.int .i64 d.lot)).run Tryz.prog w1 = .ok () w2) := by
    rw [hw2]; exact storeAt_cell w1 L 2 3 (.int .i64 d.lot) (by rw [hr1.lot]; rfl) (hr1.free _) (by kernel_rfl) rfl
  have hx2 : RecIn w2 X (d.toV (.slice ab d.barred.length cb) (.slice al d.lots.length cl) (.slice ao d.owners.length co)) := by rw [hw2]; exact hx1.other hXL _
  have hr2 : RecIn w2 L { kind := 2, round := d.round, lot := d.lot } := by rw [hw2]; exact hr1.setLot d.lot
  have hn2 : Below w.heap.size w w2 := by rw [hw2]; exact hn1.setCell (p := ⟨L, 2, none⟩) hLw _
  have hb2 : RecIn w2 R {} := by rw [hw2]; exact hb1.other hRL _
  have HX2 := aside hx2
  obtain ⟨w3, hw3⟩ : ∃ z, z = w2.setCell ⟨L, 4, none⟩ (.int .i64 d.tick) := ⟨_, rfl⟩
  have HST3 : Aside ((Instr.storeAt 3 (.pointer (some ⟨L, 4, none⟩)) (.int .i64 d.tick)).run Tryz.prog w2 = .ok () w3) := by
    rw [hw3]; exact storeAt_cell w2 L 4 3 (.int .i64 d.tick) (by rw [hr2.tick]; rfl) (hr2.free _) (by kernel_rfl) rfl
  have hx3 : RecIn w3 X (d.toV (.slice ab d.barred.length cb) (.slice al d.lots.length cl) (.slice ao d.owners.length co)) := by rw [hw3]; exact hx2.other hXL _
  have hr3 : RecIn w3 L { kind := 2, round := d.round, lot := d.lot, tick := d.tick } := by rw [hw3]; exact hr2.setTick d.tick
  have hn3 : Below w.heap.size w w3 := by rw [hw3]; exact hn2.setCell (p := ⟨L, 4, none⟩) hLw _
  have hb3 : RecIn w3 R {} := by rw [hw3]; exact hb2.other hRL _
  have HX3 := aside hx3
  obtain ⟨w4, hw4⟩ : ∃ z, z = w3.setCell ⟨L, 5, none⟩ (.slice ab d.barred.length cb) := ⟨_, rfl⟩
  have HST4 : Aside ((Instr.storeAt 31 (.pointer (some ⟨L, 5, none⟩)) (.slice ab d.barred.length cb)).run Tryz.prog w3 = .ok () w4) := by
    rw [hw4]; exact storeAt_cell w3 L 5 31 (.slice ab d.barred.length cb) (by rw [hr3.barred]; rfl) (hr3.free _) (by kernel_rfl) rfl
  have hx4 : RecIn w4 X (d.toV (.slice ab d.barred.length cb) (.slice al d.lots.length cl) (.slice ao d.owners.length co)) := by rw [hw4]; exact hx3.other hXL _
  have hr4 : RecIn w4 L { kind := 2, round := d.round, lot := d.lot, tick := d.tick, barred := (.slice ab d.barred.length cb) } := by rw [hw4]; exact hr3.setBarred (.slice ab d.barred.length cb)
  have hn4 : Below w.heap.size w w4 := by rw [hw4]; exact hn3.setCell (p := ⟨L, 5, none⟩) hLw _
  have hb4 : RecIn w4 R {} := by rw [hw4]; exact hb3.other hRL _
  have HX4 := aside hx4
  have HZR := aside hr4
  have HZN := aside hn4
  have HZB := aside hb4
  have HXD := aside hx0
  clear hx0 hr0 hn0 hb0 hx1 hr1 hn1 hb1 hw1 hx2 hr2 hn2 hb2 hw2 hx3 hr3 hn3 hb3 hw3 hx4 hr4 hn4 hb4 hw4
  refine wp_region_held_drew (S := fun W => RecIn W X (d.toV (.slice ab d.barred.length cb) (.slice al d.lots.length cl) (.slice ao d.owners.length co))) (by kernel_rfl) HXD.out (fun hHeld => ?_)
  refine wpAnyH_take (i := 0) (oi := _) (v := .pointer (some ⟨X, 1, none⟩)) rfl (by kernel_rfl) (by kernel_rfl) (by kernel_rfl) (fun _ _ _ h => h) (Or.inl ⟨by rfl, ?_⟩) hHeld ?_
  · intro W hSw
    go_simp
  simp only [Act.put, ps]
  refine wpAnyH_take (i := 1) (oi := _) (v := .int .i64 d.round) rfl (by kernel_rfl) (by kernel_rfl) (by kernel_rfl) (fun _ _ _ h => h) (Or.inl ⟨by rfl, ?_⟩) hHeld ?_
  · intro W hSw
    have c : W.cell? ⟨X, 1, none⟩ = some (.int .i64 d.round) := hSw.round
    go_simp
  simp only [Act.put, ps]
  refine wpAnyH_take (i := 2) (oi := _) (v := .pointer (some ⟨X, 2, none⟩)) rfl (by kernel_rfl) (by kernel_rfl) (by kernel_rfl) (fun _ _ _ h => h) (Or.inl ⟨by rfl, ?_⟩) hHeld ?_
  · intro W hSw
    go_simp
  simp only [Act.put, ps]
  refine wpAnyH_take (i := 3) (oi := _) (v := .int .i64 d.lot) rfl (by kernel_rfl) (by kernel_rfl) (by kernel_rfl) (fun _ _ _ h => h) (Or.inl ⟨by rfl, ?_⟩) hHeld ?_
  · intro W hSw
    have c : W.cell? ⟨X, 2, none⟩ = some (.int .i64 d.lot) := hSw.lot
    go_simp
  simp only [Act.put, ps]
  refine wpAnyH_take (i := 4) (oi := _) (v := .pointer (some ⟨X, 4, none⟩)) rfl (by kernel_rfl) (by kernel_rfl) (by kernel_rfl) (fun _ _ _ h => h) (Or.inl ⟨by rfl, ?_⟩) hHeld ?_
  · intro W hSw
    go_simp
  simp only [Act.put, ps]
  refine wpAnyH_take (i := 5) (oi := _) (v := .int .i64 d.tick) rfl (by kernel_rfl) (by kernel_rfl) (by kernel_rfl) (fun _ _ _ h => h) (Or.inl ⟨by rfl, ?_⟩) hHeld ?_
  · intro W hSw
    have c : W.cell? ⟨X, 4, none⟩ = some (.int .i64 d.tick) := hSw.tick
    go_simp
  simp only [Act.put, ps]
  refine wpAnyH_take (i := 6) (oi := _) (v := .pointer (some ⟨X, 5, none⟩)) rfl (by kernel_rfl) (by kernel_rfl) (by kernel_rfl) (fun _ _ _ h => h) (Or.inl ⟨by rfl, ?_⟩) hHeld ?_
  · intro W hSw
    go_simp
  simp only [Act.put, ps]
  refine wpAnyH_take (i := 7) (oi := _) (v := .slice ab d.barred.length cb) rfl (by kernel_rfl) (by kernel_rfl) (by kernel_rfl) (fun _ _ _ h => h) (Or.inl ⟨by rfl, ?_⟩) hHeld ?_
  · intro W hSw
    have c : W.cell? ⟨X, 5, none⟩ = some (.slice ab d.barred.length cb) := hSw.barred
    go_simp
  simp only [Act.put, ps]
  refine wpAnyH_take (i := 8) (oi := _) (v := .pointer (some ⟨L, 1, none⟩)) rfl (by kernel_rfl) (by kernel_rfl) (by kernel_rfl) (fun _ _ _ h => h) (Or.inl ⟨by rfl, ?_⟩) hHeld ?_
  · intro W hSw
    go_simp
  simp only [Act.put, ps]
  refine wpAnyH_ready (rs := [9]) (by kernel_rfl) (by simp) ?_
  refine AllReadyH.cons (o := _) rfl (fun K hK => ?_) AllReadyH.nil
  refine step_store_by rfl 3 _ _ rfl _ _ rfl rfl HST1.out ?_
  refine hK.out _ _ HX1.out (fun hHeld => ?_)
  clear hK K
  try simp only [Act.put, ps]
  refine wpAnyH_take (i := 10) (oi := _) (v := .pointer (some ⟨L, 2, none⟩)) rfl (by kernel_rfl) (by kernel_rfl) (by kernel_rfl) (fun _ _ _ h => h) (Or.inl ⟨by rfl, ?_⟩) hHeld ?_
  · intro W hSw
    go_simp
  simp only [Act.put, ps]
  refine wpAnyH_ready (rs := [11]) (by kernel_rfl) (by simp) ?_
  refine AllReadyH.cons (o := _) rfl (fun K hK => ?_) AllReadyH.nil
  refine step_store_by rfl 3 _ _ rfl _ _ rfl rfl HST2.out ?_
  refine hK.out _ _ HX2.out (fun hHeld => ?_)
  clear hK K
  try simp only [Act.put, ps]
  refine wpAnyH_take (i := 12) (oi := _) (v := .pointer (some ⟨L, 4, none⟩)) rfl (by kernel_rfl) (by kernel_rfl) (by kernel_rfl) (fun _ _ _ h => h) (Or.inl ⟨by rfl, ?_⟩) hHeld ?_
  · intro W hSw
    go_simp
  simp only [Act.put, ps]
  refine wpAnyH_ready (rs := [13]) (by kernel_rfl) (by simp) ?_
  refine AllReadyH.cons (o := _) rfl (fun K hK => ?_) AllReadyH.nil
  refine step_store_by rfl 3 _ _ rfl _ _ rfl rfl HST3.out ?_
  refine hK.out _ _ HX3.out (fun hHeld => ?_)
  clear hK K
  try simp only [Act.put, ps]
  refine wpAnyH_take (i := 14) (oi := _) (v := .pointer (some ⟨L, 5, none⟩)) rfl (by kernel_rfl) (by kernel_rfl) (by kernel_rfl) (fun _ _ _ h => h) (Or.inl ⟨by rfl, ?_⟩) hHeld ?_
  · intro W hSw
    go_simp
  simp only [Act.put, ps]
  refine wpAnyH_ready (rs := [15]) (by kernel_rfl) (by simp) ?_
  refine AllReadyH.cons (o := _) rfl (fun K hK => ?_) AllReadyH.nil
  refine step_store_by rfl 31 _ _ rfl _ _ rfl rfl HST4.out ?_
  refine hK.out _ _ HX4.out (fun hHeld => ?_)
  clear hK K
  try simp only [Act.put, ps]
  refine wpAnyH_done (by kernel_rfl) ?_ _
  obtain ⟨r, hr⟩ : ∃ r : RecV, r = { kind := 2, round := d.round, lot := d.lot, tick := d.tick, barred := (.slice ab d.barred.length cb) } := ⟨_, rfl⟩
  have HRZ : Aside (RecIn w4 L r) := by rw [hr]; exact HZR.out
  have hone : (recCells r).all (·.oneCell') = true := by rw [hr]; exact recCells_one _ rfl rfl rfl
  have hi0 : (Tryz.prog.info? 38).map (·.size) = some (recCells r).size := by rw [recCells_size]; kernel_rfl
  obtain ⟨wf, hwf⟩ : ∃ z, z = w4.setRow R (recCells r) := ⟨_, rfl⟩
  have HBF : Aside (Below w.heap.size w wf) := by rw [hwf]; exact new_of_keeps HZN.out (keeps_setRow (K := (· ≠ R)) w4 R _ (fun h => h rfl)) hRw
  have HRF : Aside (RecIn wf R r) := by rw [hwf]; exact HZB.out.setRow _
  have HE : Aside (BareRf d w (.returned (.agg (recCells r))) wf) := by
    refine ⟨r, rfl, ?_, HBF.out⟩
    rw [hr, bare2 HKD.out]
    exact ⟨(.slice ab d.barred.length cb), .slice none 0 0, .slice none 0 0, by simp only [RecD.toV, rep_getD], HRB.out.on HBF.out, RowL.nil _, RowI.nil _⟩
  have HWF := aside hwf
  clear hwf hr
  go_wp2_with (first
    | (refine wpList_load_row rfl _ _ rfl L rfl _ (recCells r) (0, 0) _ HRZ.out Tryz.underlying38 rfl hi0 ?_)
    | (refine wpList_store_row rfl _ _ _ rfl R (recCells r) rfl rfl 38 _ HZB.out hi0 rfl hone ?_; rw [← HWF.out])
    | fail)
  refine bodyPost_ret (results_cell_row rfl _ _ R 38 (recCells r) (0, 0) _ rfl HRF.out Tryz.underlying38 rfl hi0) rfl ?_
  exact HE.out
end Go.Proofs.YtkpmcjfolncmmaaGreatDoor
namespace Go.Proofs.YtkpmcjfolncmmaaGreatDoor
open Go.RowKit
set_option maxHeartbeats 4000000 in
set_option maxRecDepth 100000 in
theorem bare_k3 (rv : RecV) (d : RecD) (hkd : d.kind = 3) (w : World) (h : RecAt w rv d) :
    Calls Tryz.prog 47 #[.agg (recCells rv)] w (BareRf d w) := by
  obtain ⟨b, l, o, rfl, hb, hl, hw⟩ := h
  have HRB := aside hb
  have HRL := aside hl
  have HRW := aside hw
  obtain ⟨ab, cb, rfl, _, _⟩ := hb
  obtain ⟨al, cl, rfl, _, _⟩ := hl
  obtain ⟨ao, co, rfl, _, _⟩ := hw
  have HKD := aside hkd
  clear hkd
  go_enter Tryz.func47, Tryz.ntmps47
  go_upto_region 1 with fail
  rw [zR]
  obtain ⟨wb, hwb⟩ : ∃ z, z = w.alloc (.cells (recCells (d.toV (.slice ab d.barred.length cb) (.slice al d.lots.length cl) (.slice ao d.owners.length co))) 38) := ⟨_, rfl⟩
  obtain ⟨wa, hwa⟩ : ∃ z, z = wb.alloc (.cells (recCells {}) 38) := ⟨_, rfl⟩
  have HSB : Aside (wb.heap.size = w.heap.size + 1) := by rw [hwb]; simp [Aside]
  have HSA : Aside (wa.heap.size = w.heap.size + 1 + 1) := by rw [hwa]; simp [Aside, HSB.out]
  have HNa : Aside (Below w.heap.size w wa) := by rw [hwa, hwb]; exact new_trans (new_alloc _ _) (new_alloc _ _)
  have HXa : Aside (RecIn wa w.heap.size (d.toV (.slice ab d.barred.length cb) (.slice al d.lots.length cl) (.slice ao d.owners.length co))) := by rw [hwa, hwb]; exact (RecIn.box w _).new (new_alloc _ _)
  have HBa : Aside (RecIn wa (w.heap.size + 1) {}) := by rw [hwa, ← HSB.out]; exact RecIn.box wb {}
  obtain ⟨R, hR⟩ : ∃ x, x = w.heap.size + 1 := ⟨_, rfl⟩
  obtain ⟨X, hX⟩ : ∃ x, x = w.heap.size := ⟨_, rfl⟩
  rw [← hwb, ← hwa, ← hR, ← hX]
  rw [← hR] at HBa
  rw [← hX] at HXa
  have HRE := aside hR
  have HXE := aside hX
  clear hwb hwa hR hX
  obtain ⟨w0, hw0⟩ : ∃ z, z = wa.alloc (.cells (recCells { kind := 3 }) 38) := ⟨_, rfl⟩
  have HST : Aside ((Instr.storeAt 38 (.pointer (some ⟨wa.heap.size, 0, none⟩)) (.agg (recCells { kind := 3 }))).run Tryz.prog (wa.alloc (.cells (recCells {}) 38)) = .ok () w0) := by
    rw [Aside, hw0]
    exact storeAt_fresh wa 38 (recCells {}) _ (by rw [recCells_size]; kernel_rfl) rfl (recCells_one _ rfl rfl rfl)
  have HW0 := aside hw0
  clear hw0
  have c0 : wa.cell? ⟨X, 0, none⟩ = some (.int .i64 3) := by rw [← HKD.out]; exact HXa.out.kind
  go_upto_region 2 with (first
    | (refine wpList_build_by rfl 38 _ rfl [(0, .int .i64 3)] rfl _ (build_k _ _) ?_)
    | (refine wpList_store_by rfl 38 _ _ rfl _ _ rfl rfl HST.out ?_)
    | fail)
  clear c0
  have hw0 := HW0.out
  have hR := HRE.out
  have hX := HXE.out
  obtain ⟨L, hL⟩ : ∃ x, x = wa.heap.size := ⟨_, rfl⟩
  have HN0 : Aside (Below w.heap.size w w0) := by rw [hw0]; exact new_trans HNa.out (new_alloc _ _)
  have HR0 : Aside (RecIn w0 L { kind := 3 }) := by rw [hw0, hL]; exact RecIn.box _ _
  have HB0 : Aside (RecIn w0 R {}) := by rw [hw0]; exact HBa.out.new (new_alloc _ _)
  have HX0 : Aside (RecIn w0 X (d.toV (.slice ab d.barred.length cb) (.slice al d.lots.length cl) (.slice ao d.owners.length co))) := by rw [hw0]; exact HXa.out.new (new_alloc _ _)
  have hsa := HSA.out
  have hXL : X ≠ L := by omega
  have hRL : R ≠ L := by omega
  have hLw : w.heap.size ≤ L := by omega
  have hRw : w.heap.size ≤ R := by omega
  rw [← hL]
  clear hw0 hR hX HRE HXE hL hsa HSA HSB HNa HBa HXa HST HW0
  have c0 : w0.cell? ⟨X, 0, none⟩ = some (.int .i64 3) := by rw [← HKD.out]; exact HX0.out.kind
  go_upto_region 8 with fail
  clear c0
  have l1 := HR0.out.round
  have f1 := HR0.out.free 1
  have l3 := HR0.out.carrier
  have f3 := HR0.out.free 3
  have l4 := HR0.out.tick
  have f4 := HR0.out.free 4
  dsimp only at l1 l3 l4
  obtain ⟨w1, hw1⟩ : ∃ z, z = (w0.drew.setCell ⟨L, 1, none⟩ (.int .i64 d.round)).setCell ⟨L, 3, none⟩ (.int .i64 d.carrier) := ⟨_, rfl⟩
  have hr1 : RecIn w1 L { kind := 3, round := d.round, carrier := d.carrier } := by rw [hw1]; exact (HR0.out.drew.setRound d.round).setCarrier d.carrier
  have hn1 : Below w.heap.size w w1 := by
    rw [hw1]
    have h1 := HN0.out.trans ((new_drew w0).mono HN0.out.size)
    exact (h1.setCell (p := ⟨L, 1, none⟩) hLw _).setCell (p := ⟨L, 3, none⟩) hLw _
  have hb1 : RecIn w1 R {} := by rw [hw1]; exact (HB0.out.drew.other hRL _).other hRL _
  have hx1 : RecIn w1 X (d.toV (.slice ab d.barred.length cb) (.slice al d.lots.length cl) (.slice ao d.owners.length co)) := by rw [hw1]; exact (HX0.out.drew.other hXL _).other hXL _
  obtain ⟨w2, hst, hr2, hk2⟩ := store_dig hr1 (fun j => d.dig.getD j 0)
  obtain ⟨ds, hds⟩ : ∃ ds : Array Value, ((List.range 32).map fun j => Value.int .u8 (d.dig.getD j 0)).toArray = ds := ⟨_, rfl⟩
  rw [hds] at hst
  rw [hw1] at hst
  have HST := aside hst
  have HR2 := aside hr2
  have HN2 : Aside (Below w.heap.size w w2) := new_of_keeps hn1 hk2 hLw
  have HB2 := aside (hb1.keeps hk2 hRL)
  have HX2 := aside (hx1.keeps hk2 hXL)
  have k4 := hr2.tick
  have f4b := hr2.free 4
  dsimp only at k4
  have HXD : Aside (RecIn w0.drew X (d.toV (.slice ab d.barred.length cb) (.slice al d.lots.length cl) (.slice ao d.owners.length co))) := HX0.out.drew
  clear hst hr1 hn1 hb1 hx1 hr2 hk2 hw1 w1 l4 f4
  refine wp_region_held_drew (S := fun W => RecIn W X (d.toV (.slice ab d.barred.length cb) (.slice al d.lots.length cl) (.slice ao d.owners.length co))) (by kernel_rfl) HXD.out (fun hHeld => ?_)
  refine wpAnyH_take (i := 0) (oi := _) (v := .pointer (some ⟨X, 1, none⟩)) rfl (by kernel_rfl) (by kernel_rfl) (by kernel_rfl) (fun _ _ _ h => h) (Or.inl ⟨by rfl, ?_⟩) hHeld ?_
  · intro W hSw
    go_simp
  simp only [Act.put, ps]
  refine wpAnyH_take (i := 1) (oi := _) (v := .int .i64 d.round) rfl (by kernel_rfl) (by kernel_rfl) (by kernel_rfl) (fun _ _ _ h => h) (Or.inl ⟨by rfl, ?_⟩) hHeld ?_
  · intro W hSw
    have c : W.cell? ⟨X, 1, none⟩ = some (.int .i64 d.round) := hSw.round
    go_simp
  simp only [Act.put, ps]
  refine wpAnyH_take (i := 2) (oi := _) (v := .pointer (some ⟨X, 3, none⟩)) rfl (by kernel_rfl) (by kernel_rfl) (by kernel_rfl) (fun _ _ _ h => h) (Or.inl ⟨by rfl, ?_⟩) hHeld ?_
  · intro W hSw
    go_simp
  simp only [Act.put, ps]
  refine wpAnyH_take (i := 3) (oi := _) (v := .int .i64 d.carrier) rfl (by kernel_rfl) (by kernel_rfl) (by kernel_rfl) (fun _ _ _ h => h) (Or.inl ⟨by rfl, ?_⟩) hHeld ?_
  · intro W hSw
    have c : W.cell? ⟨X, 3, none⟩ = some (.int .i64 d.carrier) := hSw.carrier
    go_simp
  simp only [Act.put, ps]
  refine wpAnyH_take (i := 4) (oi := _) (v := .pointer (some ⟨X, 6, none⟩)) rfl (by kernel_rfl) (by kernel_rfl) (by kernel_rfl) (fun _ _ _ h => h) (Or.inl ⟨by rfl, ?_⟩) hHeld ?_
  · intro W hSw
    go_simp
  simp only [Act.put, ps]
  refine wpAnyH_take (i := 5) (oi := _) (v := .agg ((List.range 32).map fun j => Value.int .u8 (d.dig.getD j 0)).toArray) rfl (by kernel_rfl) (by kernel_rfl) (by kernel_rfl) (fun _ _ _ h => h) (yieldsIf_load_mid (by rfl) 33 (.tmp 49) rfl X 6 rfl _ _ (fun W hW => hW.digRange) Tryz.underlying33 rfl (by kernel_rfl)) hHeld ?_
  simp only [Act.put, ps]
  rw [hds]
  refine wpAnyH_take (i := 6) (oi := _) (v := .pointer (some ⟨X, 4, none⟩)) rfl (by kernel_rfl) (by kernel_rfl) (by kernel_rfl) (fun _ _ _ h => h) (Or.inl ⟨by rfl, ?_⟩) hHeld ?_
  · intro W hSw
    go_simp
  simp only [Act.put, ps]
  refine wpAnyH_take (i := 7) (oi := _) (v := .int .i64 d.tick) rfl (by kernel_rfl) (by kernel_rfl) (by kernel_rfl) (fun _ _ _ h => h) (Or.inl ⟨by rfl, ?_⟩) hHeld ?_
  · intro W hSw
    have c : W.cell? ⟨X, 4, none⟩ = some (.int .i64 d.tick) := hSw.tick
    go_simp
  simp only [Act.put, ps]
  refine wpAnyH_take (i := 8) (oi := _) (v := .pointer (some ⟨L, 1, none⟩)) rfl (by kernel_rfl) (by kernel_rfl) (by kernel_rfl) (fun _ _ _ h => h) (Or.inl ⟨by rfl, ?_⟩) hHeld ?_
  · intro W hSw
    go_simp
  simp only [Act.put, ps]
  refine wpAnyH_ready (rs := [9]) (by kernel_rfl) (by simp) ?_
  refine AllReadyH.cons (o := _) rfl (fun K hK => ?_) AllReadyH.nil
  go_simp
  refine hK.out _ _ (hHeld.other hXL _) (fun hHeld => ?_)
  clear hK K
  try simp only [Act.put, ps]
  refine wpAnyH_take (i := 10) (oi := _) (v := .pointer (some ⟨L, 3, none⟩)) rfl (by kernel_rfl) (by kernel_rfl) (by kernel_rfl) (fun _ _ _ h => h) (Or.inl ⟨by rfl, ?_⟩) hHeld ?_
  · intro W hSw
    go_simp
  simp only [Act.put, ps]
  refine wpAnyH_ready (rs := [11]) (by kernel_rfl) (by simp) ?_
  refine AllReadyH.cons (o := _) rfl (fun K hK => ?_) AllReadyH.nil
  go_simp
  refine hK.out _ _ (hHeld.other hXL _) (fun hHeld => ?_)
  clear hK K
  try simp only [Act.put, ps]
  refine wpAnyH_take (i := 12) (oi := _) (v := .pointer (some ⟨L, 6, none⟩)) rfl (by kernel_rfl) (by kernel_rfl) (by kernel_rfl) (fun _ _ _ h => h) (Or.inl ⟨by rfl, ?_⟩) hHeld ?_
  · intro W hSw
    go_simp
  simp only [Act.put, ps]
  refine wpAnyH_ready (rs := [13]) (by kernel_rfl) (by simp) ?_
  refine AllReadyH.cons (o := _) rfl (fun K hK => ?_) AllReadyH.nil
  refine step_store_by rfl 33 _ _ rfl _ _ rfl rfl HST.out ?_
  refine hK.out _ _ HX2.out (fun hHeld => ?_)
  clear hK K
  try simp only [Act.put, ps]
  refine wpAnyH_take (i := 14) (oi := _) (v := .pointer (some ⟨L, 4, none⟩)) rfl (by kernel_rfl) (by kernel_rfl) (by kernel_rfl) (fun _ _ _ h => h) (Or.inl ⟨by rfl, ?_⟩) hHeld ?_
  · intro W hSw
    go_simp
  simp only [Act.put, ps]
  refine wpAnyH_ready (rs := [15]) (by kernel_rfl) (by simp) ?_
  refine AllReadyH.cons (o := _) rfl (fun K hK => ?_) AllReadyH.nil
  go_simp
  refine hK.out _ _ (hHeld.other hXL _) (fun hHeld => ?_)
  clear hK K
  try simp only [Act.put, ps]
  refine wpAnyH_done (by kernel_rfl) ?_ _
  obtain ⟨wz, hwz⟩ : ∃ z, z = w2.setCell ⟨L, 4, none⟩ (.int .i64 d.tick) := ⟨_, rfl⟩
  have HZR : Aside (RecIn wz L { kind := 3, round := d.round, carrier := d.carrier, tick := d.tick, dig := fun j => d.dig.getD j 0 }) := by rw [hwz]; exact HR2.out.setTick d.tick
  have HZN : Aside (Below w.heap.size w wz) := by rw [hwz]; exact HN2.out.setCell (p := ⟨L, 4, none⟩) hLw _
  have HZB : Aside (RecIn wz R {}) := by rw [hwz]; exact HB2.out.other hRL _
  rw [← hwz]
  clear hwz k4 f4b l1 f1 l3 f3
  obtain ⟨r, hr⟩ : ∃ r : RecV, r = { kind := 3, round := d.round, carrier := d.carrier, tick := d.tick, dig := fun j => d.dig.getD j 0 } := ⟨_, rfl⟩
  have HRZ : Aside (RecIn wz L r) := by rw [hr]; exact HZR.out
  have hone : (recCells r).all (·.oneCell') = true := by rw [hr]; exact recCells_one _ rfl rfl rfl
  have hi0 : (Tryz.prog.info? 38).map (·.size) = some (recCells r).size := by rw [recCells_size]; kernel_rfl
  obtain ⟨wf, hwf⟩ : ∃ z, z = wz.setRow R (recCells r) := ⟨_, rfl⟩
  have HBF : Aside (Below w.heap.size w wf) := by rw [hwf]; exact new_of_keeps HZN.out (keeps_setRow (K := (· ≠ R)) wz R _ (fun h => h rfl)) hRw
  have HRF : Aside (RecIn wf R r) := by rw [hwf]; exact HZB.out.setRow _
  have HE : Aside (BareRf d w (.returned (.agg (recCells r))) wf) := by
    refine ⟨r, rfl, ?_, HBF.out⟩
    rw [hr, bare3 HKD.out]
    exact ⟨.slice none 0 0, .slice none 0 0, .slice none 0 0, by simp only [RecD.toV], RowI.nil _, RowL.nil _, RowI.nil _⟩
  have HWF := aside hwf
  clear hwf hr
  go_wp2_with (first
    | (refine wpList_load_row rfl _ _ rfl L rfl _ (recCells r) (0, 0) _ HRZ.out Tryz.underlying38 rfl hi0 ?_)
    | (refine wpList_store_row rfl _ _ _ rfl R (recCells r) rfl rfl 38 _ HZB.out hi0 rfl hone ?_; rw [← HWF.out])
    | fail)
  refine bodyPost_ret (results_cell_row rfl _ _ R 38 (recCells r) (0, 0) _ rfl HRF.out Tryz.underlying38 rfl hi0) rfl ?_
  exact HE.out
end Go.Proofs.YtkpmcjfolncmmaaGreatDoor
namespace Go.Proofs.YtkpmcjfolncmmaaGreatDoor
open Go.RowKit
set_option maxHeartbeats 4000000 in
set_option maxRecDepth 100000 in
theorem bare_k4 (rv : RecV) (d : RecD) (hkd : d.kind = 4) (w : World) (h : RecAt w rv d) :
    Calls Tryz.prog 47 #[.agg (recCells rv)] w (BareRf d w) := by
  obtain ⟨b, l, o, rfl, hb, hl, hw⟩ := h
  have HRB := aside hb
  have HRL := aside hl
  have HRW := aside hw
  obtain ⟨ab, cb, rfl, _, _⟩ := hb
  obtain ⟨al, cl, rfl, _, _⟩ := hl
  obtain ⟨ao, co, rfl, _, _⟩ := hw
  have HKD := aside hkd
  clear hkd
  go_enter Tryz.func47, Tryz.ntmps47
  go_upto_region 1 with fail
  rw [zR]
  obtain ⟨wb, hwb⟩ : ∃ z, z = w.alloc (.cells (recCells (d.toV (.slice ab d.barred.length cb) (.slice al d.lots.length cl) (.slice ao d.owners.length co))) 38) := ⟨_, rfl⟩
  obtain ⟨wa, hwa⟩ : ∃ z, z = wb.alloc (.cells (recCells {}) 38) := ⟨_, rfl⟩
  have HSB : Aside (wb.heap.size = w.heap.size + 1) := by rw [hwb]; simp [Aside]
  have HSA : Aside (wa.heap.size = w.heap.size + 1 + 1) := by rw [hwa]; simp [Aside, HSB.out]
  have HNa : Aside (Below w.heap.size w wa) := by rw [hwa, hwb]; exact new_trans (new_alloc _ _) (new_alloc _ _)
  have HXa : Aside (RecIn wa w.heap.size (d.toV (.slice ab d.barred.length cb) (.slice al d.lots.length cl) (.slice ao d.owners.length co))) := by rw [hwa, hwb]; exact (RecIn.box w _).new (new_alloc _ _)
  have HBa : Aside (RecIn wa (w.heap.size + 1) {}) := by rw [hwa, ← HSB.out]; exact RecIn.box wb {}
  obtain ⟨R, hR⟩ : ∃ x, x = w.heap.size + 1 := ⟨_, rfl⟩
  obtain ⟨X, hX⟩ : ∃ x, x = w.heap.size := ⟨_, rfl⟩
  rw [← hwb, ← hwa, ← hR, ← hX]
  rw [← hR] at HBa
  rw [← hX] at HXa
  have HRE := aside hR
  have HXE := aside hX
  clear hwb hwa hR hX
  obtain ⟨w0, hw0⟩ : ∃ z, z = wa.alloc (.cells (recCells { kind := 4 }) 38) := ⟨_, rfl⟩
  have HST : Aside ((Instr.storeAt 38 (.pointer (some ⟨wa.heap.size, 0, none⟩)) (.agg (recCells { kind := 4 }))).run Tryz.prog (wa.alloc (.cells (recCells {}) 38)) = .ok () w0) := by
    rw [Aside, hw0]
    exact storeAt_fresh wa 38 (recCells {}) _ (by rw [recCells_size]; kernel_rfl) rfl (recCells_one _ rfl rfl rfl)
  have HW0 := aside hw0
  clear hw0
  have c0 : wa.cell? ⟨X, 0, none⟩ = some (.int .i64 4) := by rw [← HKD.out]; exact HXa.out.kind
  go_upto_region 2 with (first
    | (refine wpList_build_by rfl 38 _ rfl [(0, .int .i64 4)] rfl _ (build_k _ _) ?_)
    | (refine wpList_store_by rfl 38 _ _ rfl _ _ rfl rfl HST.out ?_)
    | fail)
  clear c0
  have hw0 := HW0.out
  have hR := HRE.out
  have hX := HXE.out
  obtain ⟨L, hL⟩ : ∃ x, x = wa.heap.size := ⟨_, rfl⟩
  have HN0 : Aside (Below w.heap.size w w0) := by rw [hw0]; exact new_trans HNa.out (new_alloc _ _)
  have HR0 : Aside (RecIn w0 L { kind := 4 }) := by rw [hw0, hL]; exact RecIn.box _ _
  have HB0 : Aside (RecIn w0 R {}) := by rw [hw0]; exact HBa.out.new (new_alloc _ _)
  have HX0 : Aside (RecIn w0 X (d.toV (.slice ab d.barred.length cb) (.slice al d.lots.length cl) (.slice ao d.owners.length co))) := by rw [hw0]; exact HXa.out.new (new_alloc _ _)
  have hsa := HSA.out
  have hXL : X ≠ L := by omega
  have hRL : R ≠ L := by omega
  have hLw : w.heap.size ≤ L := by omega
  have hRw : w.heap.size ≤ R := by omega
  rw [← hL]
  clear hw0 hR hX HRE HXE hL hsa HSA HSB HNa HBa HXa HST HW0
  have c0 : w0.cell? ⟨X, 0, none⟩ = some (.int .i64 4) := by rw [← HKD.out]; exact HX0.out.kind
  go_upto_region 10 with fail
  clear c0
  have hx0 : RecIn w0.drew X (d.toV (.slice ab d.barred.length cb) (.slice al d.lots.length cl) (.slice ao d.owners.length co)) := HX0.out.drew
  have hr0 : RecIn w0.drew L { kind := 4 } := HR0.out.drew
  have hn0 : Below w.heap.size w w0.drew := HN0.out.trans ((new_drew w0).mono HN0.out.size)
  have hb0 : RecIn w0.drew R {} := HB0.out.drew
  obtain ⟨w1, hw1⟩ : ∃ z, z = (w0.drew).setCell ⟨L, 1, none⟩ (.int .i64 d.round) := ⟨_, rfl⟩
  have HST1 : Aside ((Instr.storeAt 3 (.pointer (some ⟨L, 1, none⟩)) (.int .i64 d.round)).run Tryz.prog w0.drew = .ok () w1) := by
    rw [hw1]; exact storeAt_cell w0.drew L 1 3 (.int .i64 d.round) (by rw [hr0.round]; rfl) (hr0.free _) (by kernel_rfl) rfl
  have hx1 : RecIn w1 X (d.toV (.slice ab d.barred.length cb) (.slice al d.lots.length cl) (.slice ao d.owners.length co)) := by rw [hw1]; exact hx0.other hXL _
  have hr1 : RecIn w1 L { kind := 4, round := d.round } := by rw [hw1]; exact hr0.setRound d.round
  have hn1 : Below w.heap.size w w1 := by rw [hw1]; exact hn0.setCell (p := ⟨L, 1, none⟩) hLw _
  have hb1 : RecIn w1 R {} := by rw [hw1]; exact hb0.other hRL _
  have HX1 := aside hx1
  obtain ⟨w2, hw2⟩ : ∃ z, z = w1.setCell ⟨L, 3, none⟩ (.int .i64 d.carrier) := ⟨_, rfl⟩
  have HST2 : Aside ((Instr.storeAt 3 (.pointer (some ⟨L, 3, none⟩)) (.int .i64 d.carrier)).run Tryz.prog w1 = .ok () w2) := by
    rw [hw2]; exact storeAt_cell w1 L 3 3 (.int .i64 d.carrier) (by rw [hr1.carrier]; rfl) (hr1.free _) (by kernel_rfl) rfl
  have hx2 : RecIn w2 X (d.toV (.slice ab d.barred.length cb) (.slice al d.lots.length cl) (.slice ao d.owners.length co)) := by rw [hw2]; exact hx1.other hXL _
  have hr2 : RecIn w2 L { kind := 4, round := d.round, carrier := d.carrier } := by rw [hw2]; exact hr1.setCarrier d.carrier
  have hn2 : Below w.heap.size w w2 := by rw [hw2]; exact hn1.setCell (p := ⟨L, 3, none⟩) hLw _
  have hb2 : RecIn w2 R {} := by rw [hw2]; exact hb1.other hRL _
  have HX2 := aside hx2
  obtain ⟨w3, hw3⟩ : ∃ z, z = w2.setCell ⟨L, 38, none⟩ (.int .u64 d.bid) := ⟨_, rfl⟩
  have HST3 : Aside ((Instr.storeAt 24 (.pointer (some ⟨L, 38, none⟩)) (.int .u64 d.bid)).run Tryz.prog w2 = .ok () w3) := by
    rw [hw3]; exact storeAt_cell w2 L 38 24 (.int .u64 d.bid) (by rw [hr2.bid]; rfl) (hr2.free _) (by kernel_rfl) rfl
  have hx3 : RecIn w3 X (d.toV (.slice ab d.barred.length cb) (.slice al d.lots.length cl) (.slice ao d.owners.length co)) := by rw [hw3]; exact hx2.other hXL _
  have hr3 : RecIn w3 L { kind := 4, round := d.round, carrier := d.carrier, bid := d.bid } := by rw [hw3]; exact hr2.setBid d.bid
  have hn3 : Below w.heap.size w w3 := by rw [hw3]; exact hn2.setCell (p := ⟨L, 38, none⟩) hLw _
  have hb3 : RecIn w3 R {} := by rw [hw3]; exact hb2.other hRL _
  have HX3 := aside hx3
  obtain ⟨w4, hw4⟩ : ∃ z, z = w3.setCell ⟨L, 39, none⟩ (.int .u64 d.nonce) := ⟨_, rfl⟩
  have HST4 : Aside ((Instr.storeAt 24 (.pointer (some ⟨L, 39, none⟩)) (.int .u64 d.nonce)).run Tryz.prog w3 = .ok () w4) := by
    rw [hw4]; exact storeAt_cell w3 L 39 24 (.int .u64 d.nonce) (by rw [hr3.nonce]; rfl) (hr3.free _) (by kernel_rfl) rfl
  have hx4 : RecIn w4 X (d.toV (.slice ab d.barred.length cb) (.slice al d.lots.length cl) (.slice ao d.owners.length co)) := by rw [hw4]; exact hx3.other hXL _
  have hr4 : RecIn w4 L { kind := 4, round := d.round, carrier := d.carrier, bid := d.bid, nonce := d.nonce } := by rw [hw4]; exact hr3.setNonce d.nonce
  have hn4 : Below w.heap.size w w4 := by rw [hw4]; exact hn3.setCell (p := ⟨L, 39, none⟩) hLw _
  have hb4 : RecIn w4 R {} := by rw [hw4]; exact hb3.other hRL _
  have HX4 := aside hx4
  obtain ⟨w5, hw5⟩ : ∃ z, z = w4.setCell ⟨L, 4, none⟩ (.int .i64 d.tick) := ⟨_, rfl⟩
  have HST5 : Aside ((Instr.storeAt 3 (.pointer (some ⟨L, 4, none⟩)) (.int .i64 d.tick)).run Tryz.prog w4 = .ok () w5) := by
    rw [hw5]; exact storeAt_cell w4 L 4 3 (.int .i64 d.tick) (by rw [hr4.tick]; rfl) (hr4.free _) (by kernel_rfl) rfl
  have hx5 : RecIn w5 X (d.toV (.slice ab d.barred.length cb) (.slice al d.lots.length cl) (.slice ao d.owners.length co)) := by rw [hw5]; exact hx4.other hXL _
  have hr5 : RecIn w5 L { kind := 4, round := d.round, carrier := d.carrier, bid := d.bid, nonce := d.nonce, tick := d.tick } := by rw [hw5]; exact hr4.setTick d.tick
  have hn5 : Below w.heap.size w w5 := by rw [hw5]; exact hn4.setCell (p := ⟨L, 4, none⟩) hLw _
  have hb5 : RecIn w5 R {} := by rw [hw5]; exact hb4.other hRL _
  have HX5 := aside hx5
  have HZR := aside hr5
  have HZN := aside hn5
  have HZB := aside hb5
  have HXD := aside hx0
  clear hx0 hr0 hn0 hb0 hx1 hr1 hn1 hb1 hw1 hx2 hr2 hn2 hb2 hw2 hx3 hr3 hn3 hb3 hw3 hx4 hr4 hn4 hb4 hw4 hx5 hr5 hn5 hb5 hw5
  refine wp_region_held_drew (S := fun W => RecIn W X (d.toV (.slice ab d.barred.length cb) (.slice al d.lots.length cl) (.slice ao d.owners.length co))) (by kernel_rfl) HXD.out (fun hHeld => ?_)
  refine wpAnyH_take (i := 0) (oi := _) (v := .pointer (some ⟨X, 1, none⟩)) rfl (by kernel_rfl) (by kernel_rfl) (by kernel_rfl) (fun _ _ _ h => h) (Or.inl ⟨by rfl, ?_⟩) hHeld ?_
  · intro W hSw
    go_simp
  simp only [Act.put, ps]
  refine wpAnyH_take (i := 1) (oi := _) (v := .int .i64 d.round) rfl (by kernel_rfl) (by kernel_rfl) (by kernel_rfl) (fun _ _ _ h => h) (Or.inl ⟨by rfl, ?_⟩) hHeld ?_
  · intro W hSw
    have c : W.cell? ⟨X, 1, none⟩ = some (.int .i64 d.round) := hSw.round
    go_simp
  simp only [Act.put, ps]
  refine wpAnyH_take (i := 2) (oi := _) (v := .pointer (some ⟨X, 3, none⟩)) rfl (by kernel_rfl) (by kernel_rfl) (by kernel_rfl) (fun _ _ _ h => h) (Or.inl ⟨by rfl, ?_⟩) hHeld ?_
  · intro W hSw
    go_simp
  simp only [Act.put, ps]
  refine wpAnyH_take (i := 3) (oi := _) (v := .int .i64 d.carrier) rfl (by kernel_rfl) (by kernel_rfl) (by kernel_rfl) (fun _ _ _ h => h) (Or.inl ⟨by rfl, ?_⟩) hHeld ?_
  · intro W hSw
    have c : W.cell? ⟨X, 3, none⟩ = some (.int .i64 d.carrier) := hSw.carrier
    go_simp
  simp only [Act.put, ps]
  refine wpAnyH_take (i := 4) (oi := _) (v := .pointer (some ⟨X, 38, none⟩)) rfl (by kernel_rfl) (by kernel_rfl) (by kernel_rfl) (fun _ _ _ h => h) (Or.inl ⟨by rfl, ?_⟩) hHeld ?_
  · intro W hSw
    go_simp
  simp only [Act.put, ps]
  refine wpAnyH_take (i := 5) (oi := _) (v := .int .u64 d.bid) rfl (by kernel_rfl) (by kernel_rfl) (by kernel_rfl) (fun _ _ _ h => h) (Or.inl ⟨by rfl, ?_⟩) hHeld ?_
  · intro W hSw
    have c : W.cell? ⟨X, 38, none⟩ = some (.int .u64 d.bid) := hSw.bid
    go_simp
  simp only [Act.put, ps]
  refine wpAnyH_take (i := 6) (oi := _) (v := .pointer (some ⟨X, 39, none⟩)) rfl (by kernel_rfl) (by kernel_rfl) (by kernel_rfl) (fun _ _ _ h => h) (Or.inl ⟨by rfl, ?_⟩) hHeld ?_
  · intro W hSw
    go_simp
  simp only [Act.put, ps]
  refine wpAnyH_take (i := 7) (oi := _) (v := .int .u64 d.nonce) rfl (by kernel_rfl) (by kernel_rfl) (by kernel_rfl) (fun _ _ _ h => h) (Or.inl ⟨by rfl, ?_⟩) hHeld ?_
  · intro W hSw
    have c : W.cell? ⟨X, 39, none⟩ = some (.int .u64 d.nonce) := hSw.nonce
    go_simp
  simp only [Act.put, ps]
  refine wpAnyH_take (i := 8) (oi := _) (v := .pointer (some ⟨X, 4, none⟩)) rfl (by kernel_rfl) (by kernel_rfl) (by kernel_rfl) (fun _ _ _ h => h) (Or.inl ⟨by rfl, ?_⟩) hHeld ?_
  · intro W hSw
    go_simp
  simp only [Act.put, ps]
  refine wpAnyH_take (i := 9) (oi := _) (v := .int .i64 d.tick) rfl (by kernel_rfl) (by kernel_rfl) (by kernel_rfl) (fun _ _ _ h => h) (Or.inl ⟨by rfl, ?_⟩) hHeld ?_
  · intro W hSw
    have c : W.cell? ⟨X, 4, none⟩ = some (.int .i64 d.tick) := hSw.tick
    go_simp
  simp only [Act.put, ps]
  refine wpAnyH_take (i := 10) (oi := _) (v := .pointer (some ⟨L, 1, none⟩)) rfl (by kernel_rfl) (by kernel_rfl) (by kernel_rfl) (fun _ _ _ h => h) (Or.inl ⟨by rfl, ?_⟩) hHeld ?_
  · intro W hSw
    go_simp
  simp only [Act.put, ps]
  refine wpAnyH_ready (rs := [11]) (by kernel_rfl) (by simp) ?_
  refine AllReadyH.cons (o := _) rfl (fun K hK => ?_) AllReadyH.nil
  refine step_store_by rfl 3 _ _ rfl _ _ rfl rfl HST1.out ?_
  refine hK.out _ _ HX1.out (fun hHeld => ?_)
  clear hK K
  try simp only [Act.put, ps]
  refine wpAnyH_take (i := 12) (oi := _) (v := .pointer (some ⟨L, 3, none⟩)) rfl (by kernel_rfl) (by kernel_rfl) (by kernel_rfl) (fun _ _ _ h => h) (Or.inl ⟨by rfl, ?_⟩) hHeld ?_
  · intro W hSw
    go_simp
  simp only [Act.put, ps]
  refine wpAnyH_ready (rs := [13]) (by kernel_rfl) (by simp) ?_
  refine AllReadyH.cons (o := _) rfl (fun K hK => ?_) AllReadyH.nil
  refine step_store_by rfl 3 _ _ rfl _ _ rfl rfl HST2.out ?_
  refine hK.out _ _ HX2.out (fun hHeld => ?_)
  clear hK K
  try simp only [Act.put, ps]
  refine wpAnyH_take (i := 14) (oi := _) (v := .pointer (some ⟨L, 38, none⟩)) rfl (by kernel_rfl) (by kernel_rfl) (by kernel_rfl) (fun _ _ _ h => h) (Or.inl ⟨by rfl, ?_⟩) hHeld ?_
  · intro W hSw
    go_simp
  simp only [Act.put, ps]
  refine wpAnyH_ready (rs := [15]) (by kernel_rfl) (by simp) ?_
  refine AllReadyH.cons (o := _) rfl (fun K hK => ?_) AllReadyH.nil
  refine step_store_by rfl 24 _ _ rfl _ _ rfl rfl HST3.out ?_
  refine hK.out _ _ HX3.out (fun hHeld => ?_)
  clear hK K
  try simp only [Act.put, ps]
  refine wpAnyH_take (i := 16) (oi := _) (v := .pointer (some ⟨L, 39, none⟩)) rfl (by kernel_rfl) (by kernel_rfl) (by kernel_rfl) (fun _ _ _ h => h) (Or.inl ⟨by rfl, ?_⟩) hHeld ?_
  · intro W hSw
    go_simp
  simp only [Act.put, ps]
  refine wpAnyH_ready (rs := [17]) (by kernel_rfl) (by simp) ?_
  refine AllReadyH.cons (o := _) rfl (fun K hK => ?_) AllReadyH.nil
  refine step_store_by rfl 24 _ _ rfl _ _ rfl rfl HST4.out ?_
  refine hK.out _ _ HX4.out (fun hHeld => ?_)
  clear hK K
  try simp only [Act.put, ps]
  refine wpAnyH_take (i := 18) (oi := _) (v := .pointer (some ⟨L, 4, none⟩)) rfl (by kernel_rfl) (by kernel_rfl) (by kernel_rfl) (fun _ _ _ h => h) (Or.inl ⟨by rfl, ?_⟩) hHeld ?_
  · intro W hSw
    go_simp
  simp only [Act.put, ps]
  refine wpAnyH_ready (rs := [19]) (by kernel_rfl) (by simp) ?_
  refine AllReadyH.cons (o := _) rfl (fun K hK => ?_) AllReadyH.nil
  refine step_store_by rfl 3 _ _ rfl _ _ rfl rfl HST5.out ?_
  refine hK.out _ _ HX5.out (fun hHeld => ?_)
  clear hK K
  try simp only [Act.put, ps]
  refine wpAnyH_done (by kernel_rfl) ?_ _
  obtain ⟨r, hr⟩ : ∃ r : RecV, r = { kind := 4, round := d.round, carrier := d.carrier, bid := d.bid, nonce := d.nonce, tick := d.tick } := ⟨_, rfl⟩
  have HRZ : Aside (RecIn w5 L r) := by rw [hr]; exact HZR.out
  have hone : (recCells r).all (·.oneCell') = true := by rw [hr]; exact recCells_one _ rfl rfl rfl
  have hi0 : (Tryz.prog.info? 38).map (·.size) = some (recCells r).size := by rw [recCells_size]; kernel_rfl
  obtain ⟨wf, hwf⟩ : ∃ z, z = w5.setRow R (recCells r) := ⟨_, rfl⟩
  have HBF : Aside (Below w.heap.size w wf) := by rw [hwf]; exact new_of_keeps HZN.out (keeps_setRow (K := (· ≠ R)) w5 R _ (fun h => h rfl)) hRw
  have HRF : Aside (RecIn wf R r) := by rw [hwf]; exact HZB.out.setRow _
  have HE : Aside (BareRf d w (.returned (.agg (recCells r))) wf) := by
    refine ⟨r, rfl, ?_, HBF.out⟩
    rw [hr, bare4 HKD.out]
    exact ⟨.slice none 0 0, .slice none 0 0, .slice none 0 0, by simp only [RecD.toV, rep_getD], RowI.nil _, RowL.nil _, RowI.nil _⟩
  have HWF := aside hwf
  clear hwf hr
  go_wp2_with (first
    | (refine wpList_load_row rfl _ _ rfl L rfl _ (recCells r) (0, 0) _ HRZ.out Tryz.underlying38 rfl hi0 ?_)
    | (refine wpList_store_row rfl _ _ _ rfl R (recCells r) rfl rfl 38 _ HZB.out hi0 rfl hone ?_; rw [← HWF.out])
    | fail)
  refine bodyPost_ret (results_cell_row rfl _ _ R 38 (recCells r) (0, 0) _ rfl HRF.out Tryz.underlying38 rfl hi0) rfl ?_
  exact HE.out
end Go.Proofs.YtkpmcjfolncmmaaGreatDoor
namespace Go.Proofs.YtkpmcjfolncmmaaGreatDoor
open Go.RowKit
set_option maxHeartbeats 4000000 in
set_option maxRecDepth 100000 in
theorem bare_k5 (rv : RecV) (d : RecD) (hkd : d.kind = 5) (w : World) (h : RecAt w rv d) :
    Calls Tryz.prog 47 #[.agg (recCells rv)] w (BareRf d w) := by
  obtain ⟨b, l, o, rfl, hb, hl, hw⟩ := h
  have HRB := aside hb
  have HRL := aside hl
  have HRW := aside hw
  obtain ⟨ab, cb, rfl, _, _⟩ := hb
  obtain ⟨al, cl, rfl, _, _⟩ := hl
  obtain ⟨ao, co, rfl, _, _⟩ := hw
  have HKD := aside hkd
  clear hkd
  go_enter Tryz.func47, Tryz.ntmps47
  go_upto_region 1 with fail
  rw [zR]
  obtain ⟨wb, hwb⟩ : ∃ z, z = w.alloc (.cells (recCells (d.toV (.slice ab d.barred.length cb) (.slice al d.lots.length cl) (.slice ao d.owners.length co))) 38) := ⟨_, rfl⟩
  obtain ⟨wa, hwa⟩ : ∃ z, z = wb.alloc (.cells (recCells {}) 38) := ⟨_, rfl⟩
  have HSB : Aside (wb.heap.size = w.heap.size + 1) := by rw [hwb]; simp [Aside]
  have HSA : Aside (wa.heap.size = w.heap.size + 1 + 1) := by rw [hwa]; simp [Aside, HSB.out]
  have HNa : Aside (Below w.heap.size w wa) := by rw [hwa, hwb]; exact new_trans (new_alloc _ _) (new_alloc _ _)
  have HXa : Aside (RecIn wa w.heap.size (d.toV (.slice ab d.barred.length cb) (.slice al d.lots.length cl) (.slice ao d.owners.length co))) := by rw [hwa, hwb]; exact (RecIn.box w _).new (new_alloc _ _)
  have HBa : Aside (RecIn wa (w.heap.size + 1) {}) := by rw [hwa, ← HSB.out]; exact RecIn.box wb {}
  obtain ⟨R, hR⟩ : ∃ x, x = w.heap.size + 1 := ⟨_, rfl⟩
  obtain ⟨X, hX⟩ : ∃ x, x = w.heap.size := ⟨_, rfl⟩
  rw [← hwb, ← hwa, ← hR, ← hX]
  rw [← hR] at HBa
  rw [← hX] at HXa
  have HRE := aside hR
  have HXE := aside hX
  clear hwb hwa hR hX
  obtain ⟨w0, hw0⟩ : ∃ z, z = wa.alloc (.cells (recCells { kind := 5 }) 38) := ⟨_, rfl⟩
  have HST : Aside ((Instr.storeAt 38 (.pointer (some ⟨wa.heap.size, 0, none⟩)) (.agg (recCells { kind := 5 }))).run Tryz.prog (wa.alloc (.cells (recCells {}) 38)) = .ok () w0) := by
    rw [Aside, hw0]
    exact storeAt_fresh wa 38 (recCells {}) _ (by rw [recCells_size]; kernel_rfl) rfl (recCells_one _ rfl rfl rfl)
  have HW0 := aside hw0
  clear hw0
  have c0 : wa.cell? ⟨X, 0, none⟩ = some (.int .i64 5) := by rw [← HKD.out]; exact HXa.out.kind
  go_upto_region 2 with (first
    | (refine wpList_build_by rfl 38 _ rfl [(0, .int .i64 5)] rfl _ (build_k _ _) ?_)
    | (refine wpList_store_by rfl 38 _ _ rfl _ _ rfl rfl HST.out ?_)
    | fail)
  clear c0
  have hw0 := HW0.out
  have hR := HRE.out
  have hX := HXE.out
  obtain ⟨L, hL⟩ : ∃ x, x = wa.heap.size := ⟨_, rfl⟩
  have HN0 : Aside (Below w.heap.size w w0) := by rw [hw0]; exact new_trans HNa.out (new_alloc _ _)
  have HR0 : Aside (RecIn w0 L { kind := 5 }) := by rw [hw0, hL]; exact RecIn.box _ _
  have HB0 : Aside (RecIn w0 R {}) := by rw [hw0]; exact HBa.out.new (new_alloc _ _)
  have HX0 : Aside (RecIn w0 X (d.toV (.slice ab d.barred.length cb) (.slice al d.lots.length cl) (.slice ao d.owners.length co))) := by rw [hw0]; exact HXa.out.new (new_alloc _ _)
  have hsa := HSA.out
  have hXL : X ≠ L := by omega
  have hRL : R ≠ L := by omega
  have hLw : w.heap.size ≤ L := by omega
  have hRw : w.heap.size ≤ R := by omega
  rw [← hL]
  clear hw0 hR hX HRE HXE hL hsa HSA HSB HNa HBa HXa HST HW0
  have c0 : w0.cell? ⟨X, 0, none⟩ = some (.int .i64 5) := by rw [← HKD.out]; exact HX0.out.kind
  go_upto_region 12 with fail
  clear c0
  have l1 := HR0.out.round
  have f1 := HR0.out.free 1
  have l4 := HR0.out.tick
  have f4 := HR0.out.free 4
  dsimp only at l1 l4
  obtain ⟨w1, hw1⟩ : ∃ z, z = w0.drew.setCell ⟨L, 1, none⟩ (.int .i64 d.round) := ⟨_, rfl⟩
  have hr1 : RecIn w1 L { kind := 5, round := d.round } := by rw [hw1]; exact HR0.out.drew.setRound d.round
  have hn1 : Below w.heap.size w w1 := by
    rw [hw1]
    have h1 := HN0.out.trans ((new_drew w0).mono HN0.out.size)
    exact h1.setCell (p := ⟨L, 1, none⟩) hLw _
  have hb1 : RecIn w1 R {} := by rw [hw1]; exact HB0.out.drew.other hRL _
  have hx1 : RecIn w1 X (d.toV (.slice ab d.barred.length cb) (.slice al d.lots.length cl) (.slice ao d.owners.length co)) := by rw [hw1]; exact HX0.out.drew.other hXL _
  obtain ⟨w2, hst, hr2, hk2⟩ := store_out hr1 d.state d.winner d.price
  rw [hw1] at hst
  have HST := aside hst
  have HR2 := aside hr2
  have HN2 : Aside (Below w.heap.size w w2) := new_of_keeps hn1 hk2 hLw
  have HB2 := aside (hb1.keeps hk2 hRL)
  have HX2 := aside (hx1.keeps hk2 hXL)
  have k4 := hr2.tick
  have f4b := hr2.free 4
  dsimp only at k4
  have HXD : Aside (RecIn w0.drew X (d.toV (.slice ab d.barred.length cb) (.slice al d.lots.length cl) (.slice ao d.owners.length co))) := HX0.out.drew
  clear hst hr1 hn1 hb1 hx1 hr2 hk2 hw1 w1 l4 f4
  refine wp_region_held_drew (S := fun W => RecIn W X (d.toV (.slice ab d.barred.length cb) (.slice al d.lots.length cl) (.slice ao d.owners.length co))) (by kernel_rfl) HXD.out (fun hHeld => ?_)
  refine wpAnyH_take (i := 0) (oi := _) (v := .pointer (some ⟨X, 1, none⟩)) rfl (by kernel_rfl) (by kernel_rfl) (by kernel_rfl) (fun _ _ _ h => h) (Or.inl ⟨by rfl, ?_⟩) hHeld ?_
  · intro W hSw
    go_simp
  simp only [Act.put, ps]
  refine wpAnyH_take (i := 1) (oi := _) (v := .int .i64 d.round) rfl (by kernel_rfl) (by kernel_rfl) (by kernel_rfl) (fun _ _ _ h => h) (Or.inl ⟨by rfl, ?_⟩) hHeld ?_
  · intro W hSw
    have c : W.cell? ⟨X, 1, none⟩ = some (.int .i64 d.round) := hSw.round
    go_simp
  simp only [Act.put, ps]
  refine wpAnyH_take (i := 2) (oi := _) (v := .pointer (some ⟨X, 40, none⟩)) rfl (by kernel_rfl) (by kernel_rfl) (by kernel_rfl) (fun _ _ _ h => h) (Or.inl ⟨by rfl, ?_⟩) hHeld ?_
  · intro W hSw
    go_simp
  simp only [Act.put, ps]
  refine wpAnyH_take (i := 3) (oi := _) (v := .agg #[.int .i64 d.state, .int .i64 d.winner, .int .u64 d.price]) rfl (by kernel_rfl) (by kernel_rfl) (by kernel_rfl) (fun _ _ _ h => h) (yieldsIf_load_mid (by rfl) 35 (.tmp 78) rfl X 40 rfl [.int .i64 d.state, .int .i64 d.winner, .int .u64 d.price] _ (fun W hW => hW.outRange) Tryz.underlying35 rfl (by kernel_rfl)) hHeld ?_
  simp only [Act.put, ps]
  refine wpAnyH_take (i := 4) (oi := _) (v := .pointer (some ⟨X, 4, none⟩)) rfl (by kernel_rfl) (by kernel_rfl) (by kernel_rfl) (fun _ _ _ h => h) (Or.inl ⟨by rfl, ?_⟩) hHeld ?_
  · intro W hSw
    go_simp
  simp only [Act.put, ps]
  refine wpAnyH_take (i := 5) (oi := _) (v := .int .i64 d.tick) rfl (by kernel_rfl) (by kernel_rfl) (by kernel_rfl) (fun _ _ _ h => h) (Or.inl ⟨by rfl, ?_⟩) hHeld ?_
  · intro W hSw
    have c : W.cell? ⟨X, 4, none⟩ = some (.int .i64 d.tick) := hSw.tick
    go_simp
  simp only [Act.put, ps]
  refine wpAnyH_take (i := 6) (oi := _) (v := .pointer (some ⟨L, 1, none⟩)) rfl (by kernel_rfl) (by kernel_rfl) (by kernel_rfl) (fun _ _ _ h => h) (Or.inl ⟨by rfl, ?_⟩) hHeld ?_
  · intro W hSw
    go_simp
  simp only [Act.put, ps]
  refine wpAnyH_ready (rs := [7]) (by kernel_rfl) (by simp) ?_
  refine AllReadyH.cons (o := _) rfl (fun K hK => ?_) AllReadyH.nil
  go_simp
  refine hK.out _ _ (hHeld.other hXL _) (fun hHeld => ?_)
  clear hK K
  try simp only [Act.put, ps]
  refine wpAnyH_take (i := 8) (oi := _) (v := .pointer (some ⟨L, 40, none⟩)) rfl (by kernel_rfl) (by kernel_rfl) (by kernel_rfl) (fun _ _ _ h => h) (Or.inl ⟨by rfl, ?_⟩) hHeld ?_
  · intro W hSw
    go_simp
  simp only [Act.put, ps]
  refine wpAnyH_ready (rs := [9]) (by kernel_rfl) (by simp) ?_
  refine AllReadyH.cons (o := _) rfl (fun K hK => ?_) AllReadyH.nil
  refine step_store_by rfl 35 _ _ rfl _ _ rfl rfl HST.out ?_
  refine hK.out _ _ HX2.out (fun hHeld => ?_)
  clear hK K
  try simp only [Act.put, ps]
  refine wpAnyH_take (i := 10) (oi := _) (v := .pointer (some ⟨L, 4, none⟩)) rfl (by kernel_rfl) (by kernel_rfl) (by kernel_rfl) (fun _ _ _ h => h) (Or.inl ⟨by rfl, ?_⟩) hHeld ?_
  · intro W hSw
    go_simp
  simp only [Act.put, ps]
  refine wpAnyH_ready (rs := [11]) (by kernel_rfl) (by simp) ?_
  refine AllReadyH.cons (o := _) rfl (fun K hK => ?_) AllReadyH.nil
  go_simp
  refine hK.out _ _ (hHeld.other hXL _) (fun hHeld => ?_)
  clear hK K
  try simp only [Act.put, ps]
  refine wpAnyH_done (by kernel_rfl) ?_ _
  obtain ⟨wz, hwz⟩ : ∃ z, z = w2.setCell ⟨L, 4, none⟩ (.int .i64 d.tick) := ⟨_, rfl⟩
  have HZR : Aside (RecIn wz L { kind := 5, round := d.round, tick := d.tick, state := d.state, winner := d.winner, price := d.price }) := by rw [hwz]; exact HR2.out.setTick d.tick
  have HZN : Aside (Below w.heap.size w wz) := by rw [hwz]; exact HN2.out.setCell (p := ⟨L, 4, none⟩) hLw _
  have HZB : Aside (RecIn wz R {}) := by rw [hwz]; exact HB2.out.other hRL _
  rw [← hwz]
  clear hwz k4 f4b l1 f1
  obtain ⟨r, hr⟩ : ∃ r : RecV, r = { kind := 5, round := d.round, tick := d.tick, state := d.state, winner := d.winner, price := d.price } := ⟨_, rfl⟩
  have HRZ : Aside (RecIn wz L r) := by rw [hr]; exact HZR.out
  have hone : (recCells r).all (·.oneCell') = true := by rw [hr]; exact recCells_one _ rfl rfl rfl
  have hi0 : (Tryz.prog.info? 38).map (·.size) = some (recCells r).size := by rw [recCells_size]; kernel_rfl
  obtain ⟨wf, hwf⟩ : ∃ z, z = wz.setRow R (recCells r) := ⟨_, rfl⟩
  have HBF : Aside (Below w.heap.size w wf) := by rw [hwf]; exact new_of_keeps HZN.out (keeps_setRow (K := (· ≠ R)) wz R _ (fun h => h rfl)) hRw
  have HRF : Aside (RecIn wf R r) := by rw [hwf]; exact HZB.out.setRow _
  have HE : Aside (BareRf d w (.returned (.agg (recCells r))) wf) := by
    refine ⟨r, rfl, ?_, HBF.out⟩
    rw [hr, bare5 HKD.out]
    exact ⟨.slice none 0 0, .slice none 0 0, .slice none 0 0, by simp only [RecD.toV, rep_getD], RowI.nil _, RowL.nil _, RowI.nil _⟩
  have HWF := aside hwf
  clear hwf hr
  go_wp2_with (first
    | (refine wpList_load_row rfl _ _ rfl L rfl _ (recCells r) (0, 0) _ HRZ.out Tryz.underlying38 rfl hi0 ?_)
    | (refine wpList_store_row rfl _ _ _ rfl R (recCells r) rfl rfl 38 _ HZB.out hi0 rfl hone ?_; rw [← HWF.out])
    | fail)
  refine bodyPost_ret (results_cell_row rfl _ _ R 38 (recCells r) (0, 0) _ rfl HRF.out Tryz.underlying38 rfl hi0) rfl ?_
  exact HE.out
end Go.Proofs.YtkpmcjfolncmmaaGreatDoor
namespace Go.Proofs.YtkpmcjfolncmmaaGreatDoor
open Go.RowKit
set_option maxHeartbeats 4000000 in
set_option maxRecDepth 100000 in
theorem bare_k6 (rv : RecV) (d : RecD) (hkd : d.kind = 6) (w : World) (h : RecAt w rv d) :
    Calls Tryz.prog 47 #[.agg (recCells rv)] w (BareRf d w) := by
  obtain ⟨b, l, o, rfl, hb, hl, hw⟩ := h
  have HRB := aside hb
  have HRL := aside hl
  have HRW := aside hw
  obtain ⟨ab, cb, rfl, _, _⟩ := hb
  obtain ⟨al, cl, rfl, _, _⟩ := hl
  obtain ⟨ao, co, rfl, _, _⟩ := hw
  have HKD := aside hkd
  clear hkd
  go_enter Tryz.func47, Tryz.ntmps47
  go_upto_region 1 with fail
  rw [zR]
  obtain ⟨wb, hwb⟩ : ∃ z, z = w.alloc (.cells (recCells (d.toV (.slice ab d.barred.length cb) (.slice al d.lots.length cl) (.slice ao d.owners.length co))) 38) := ⟨_, rfl⟩
  obtain ⟨wa, hwa⟩ : ∃ z, z = wb.alloc (.cells (recCells {}) 38) := ⟨_, rfl⟩
  have HSB : Aside (wb.heap.size = w.heap.size + 1) := by rw [hwb]; simp [Aside]
  have HSA : Aside (wa.heap.size = w.heap.size + 1 + 1) := by rw [hwa]; simp [Aside, HSB.out]
  have HNa : Aside (Below w.heap.size w wa) := by rw [hwa, hwb]; exact new_trans (new_alloc _ _) (new_alloc _ _)
  have HXa : Aside (RecIn wa w.heap.size (d.toV (.slice ab d.barred.length cb) (.slice al d.lots.length cl) (.slice ao d.owners.length co))) := by rw [hwa, hwb]; exact (RecIn.box w _).new (new_alloc _ _)
  have HBa : Aside (RecIn wa (w.heap.size + 1) {}) := by rw [hwa, ← HSB.out]; exact RecIn.box wb {}
  obtain ⟨R, hR⟩ : ∃ x, x = w.heap.size + 1 := ⟨_, rfl⟩
  obtain ⟨X, hX⟩ : ∃ x, x = w.heap.size := ⟨_, rfl⟩
  rw [← hwb, ← hwa, ← hR, ← hX]
  rw [← hR] at HBa
  rw [← hX] at HXa
  have HRE := aside hR
  have HXE := aside hX
  clear hwb hwa hR hX
  obtain ⟨w0, hw0⟩ : ∃ z, z = wa.alloc (.cells (recCells { kind := 6 }) 38) := ⟨_, rfl⟩
  have HST : Aside ((Instr.storeAt 38 (.pointer (some ⟨wa.heap.size, 0, none⟩)) (.agg (recCells { kind := 6 }))).run Tryz.prog (wa.alloc (.cells (recCells {}) 38)) = .ok () w0) := by
    rw [Aside, hw0]
    exact storeAt_fresh wa 38 (recCells {}) _ (by rw [recCells_size]; kernel_rfl) rfl (recCells_one _ rfl rfl rfl)
  have HW0 := aside hw0
  clear hw0
  have c0 : wa.cell? ⟨X, 0, none⟩ = some (.int .i64 6) := by rw [← HKD.out]; exact HXa.out.kind
  go_upto_region 2 with (first
    | (refine wpList_build_by rfl 38 _ rfl [(0, .int .i64 6)] rfl _ (build_k _ _) ?_)
    | (refine wpList_store_by rfl 38 _ _ rfl _ _ rfl rfl HST.out ?_)
    | fail)
  clear c0
  have hw0 := HW0.out
  have hR := HRE.out
  have hX := HXE.out
  obtain ⟨L, hL⟩ : ∃ x, x = wa.heap.size := ⟨_, rfl⟩
  have HN0 : Aside (Below w.heap.size w w0) := by rw [hw0]; exact new_trans HNa.out (new_alloc _ _)
  have HR0 : Aside (RecIn w0 L { kind := 6 }) := by rw [hw0, hL]; exact RecIn.box _ _
  have HB0 : Aside (RecIn w0 R {}) := by rw [hw0]; exact HBa.out.new (new_alloc _ _)
  have HX0 : Aside (RecIn w0 X (d.toV (.slice ab d.barred.length cb) (.slice al d.lots.length cl) (.slice ao d.owners.length co))) := by rw [hw0]; exact HXa.out.new (new_alloc _ _)
  have hsa := HSA.out
  have hXL : X ≠ L := by omega
  have hRL : R ≠ L := by omega
  have hLw : w.heap.size ≤ L := by omega
  have hRw : w.heap.size ≤ R := by omega
  rw [← hL]
  clear hw0 hR hX HRE HXE hL hsa HSA HSB HNa HBa HXa HST HW0
  have c0 : w0.cell? ⟨X, 0, none⟩ = some (.int .i64 6) := by rw [← HKD.out]; exact HX0.out.kind
  go_upto_region 14 with fail
  clear c0
  have c4 : w0.cell? ⟨X, 4, none⟩ = some (.int .i64 d.tick) := HX0.out.tick
  have l4 := HR0.out.tick
  have f4 := HR0.out.free 4
  dsimp only at l4
  go_upto_region 15 with fail
  obtain ⟨wz, hwz⟩ : ∃ z, z = (w0.setCell ⟨L, 4, none⟩ (.int .i64 d.tick)) := ⟨_, rfl⟩
  have HZR : Aside (RecIn wz L { kind := 6, tick := d.tick }) := by rw [hwz]; exact (HR0.out.setTick d.tick)
  have HZN : Aside (Below w.heap.size w wz) := by rw [hwz]; exact (HN0.out.setCell (p := ⟨L, 4, none⟩) hLw (.int .i64 d.tick))
  have HZB : Aside (RecIn wz R {}) := by rw [hwz]; exact (HB0.out.other hRL (j := 4) (.int .i64 d.tick))
  rw [← hwz]
  clear hwz c4 l4 f4
  obtain ⟨r, hr⟩ : ∃ r : RecV, r = { kind := 6, tick := d.tick } := ⟨_, rfl⟩
  have HRZ : Aside (RecIn wz L r) := by rw [hr]; exact HZR.out
  have hone : (recCells r).all (·.oneCell') = true := by rw [hr]; exact recCells_one _ rfl rfl rfl
  have hi0 : (Tryz.prog.info? 38).map (·.size) = some (recCells r).size := by rw [recCells_size]; kernel_rfl
  obtain ⟨wf, hwf⟩ : ∃ z, z = wz.setRow R (recCells r) := ⟨_, rfl⟩
  have HBF : Aside (Below w.heap.size w wf) := by rw [hwf]; exact new_of_keeps HZN.out (keeps_setRow (K := (· ≠ R)) wz R _ (fun h => h rfl)) hRw
  have HRF : Aside (RecIn wf R r) := by rw [hwf]; exact HZB.out.setRow _
  have HE : Aside (BareRf d w (.returned (.agg (recCells r))) wf) := by
    refine ⟨r, rfl, ?_, HBF.out⟩
    rw [hr, bare6 HKD.out]
    exact ⟨.slice none 0 0, .slice none 0 0, .slice none 0 0, by simp only [RecD.toV, rep_getD], RowI.nil _, RowL.nil _, RowI.nil _⟩
  have HWF := aside hwf
  clear hwf hr
  go_wp2_with (first
    | (refine wpList_load_row rfl _ _ rfl L rfl _ (recCells r) (0, 0) _ HRZ.out Tryz.underlying38 rfl hi0 ?_)
    | (refine wpList_store_row rfl _ _ _ rfl R (recCells r) rfl rfl 38 _ HZB.out hi0 rfl hone ?_; rw [← HWF.out])
    | fail)
  refine bodyPost_ret (results_cell_row rfl _ _ R 38 (recCells r) (0, 0) _ rfl HRF.out Tryz.underlying38 rfl hi0) rfl ?_
  exact HE.out
end Go.Proofs.YtkpmcjfolncmmaaGreatDoor
namespace Go.Proofs.YtkpmcjfolncmmaaGreatDoor
open Go.RowKit
theorem bare_any (rv : RecV) (d : RecD) (hk : 1 ≤ d.kind ∧ d.kind ≤ 6) (w : World) (h : RecAt w rv d) :
    Calls Tryz.prog 47 #[.agg (recCells rv)] w (BareRf d w) := by
  have h6 : d.kind = 1 ∨ d.kind = 2 ∨ d.kind = 3 ∨ d.kind = 4 ∨ d.kind = 5 ∨ d.kind = 6 := by omega
  rcases h6 with e | e | e | e | e | e
  · exact bare_k1 rv d e w h
  · exact bare_k2 rv d e w h
  · exact bare_k3 rv d e w h
  · exact bare_k4 rv d e w h
  · exact bare_k5 rv d e w h
  · exact bare_k6 rv d e w h
theorem bareD_len (d : RecD) (h : d.dig.length = 32) : (bareD d).dig.length = 32 := by
  unfold bareD
  split
  · rfl
  split
  · rfl
  split
  · exact h
  split
  · rfl
  split
  · rfl
  rfl
theorem bareD_rows (d : RecD) (n : Nat) (h : d.barred.length + d.lots.length + d.owners.length ≤ n) : (bareD d).barred.length + (bareD d).lots.length + (bareD d).owners.length ≤ n := by
  unfold bareD
  split
  · show 0 + d.lots.length + d.owners.length ≤ n
    omega
  split
  · show d.barred.length + 0 + 0 ≤ n
    omega
  split
  · exact Nat.zero_le _
  split
  · exact Nat.zero_le _
  split
  · exact Nat.zero_le _
  exact Nat.zero_le _
end Go.Proofs.YtkpmcjfolncmmaaGreatDoor
