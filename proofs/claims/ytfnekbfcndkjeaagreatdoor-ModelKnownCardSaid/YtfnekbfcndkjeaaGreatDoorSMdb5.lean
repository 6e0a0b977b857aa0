/- closes, walked. Printed by wip/gen/mdk.py. -/
import Derived.Test.YtfnekbfcndkjeaaGreatDoorSMdb4
import Derived.Test.YtfnekbfcndkjeaaGreatDoorSLate
import Derived.Test.YtfnekbfcndkjeaaGreatDoorSOf2
import Derived.Maps.AppendAt
set_option linter.all false
namespace Go.Proofs.YtfnekbfcndkjeaaGreatDoor
open Go.RowKit
open Vk (vickOf)
set_option maxHeartbeats 4000000 in
set_option maxRecDepth 100000 in
theorem closes_none {S : Nat → Prop} {n : Nat} {w : World} {p : Nat} {v : ModV} {st : MSt} (h : ModIn S n w p v st) (hS : ∀ k, S k → k < w.heap.size) (hno : st.opn = none) (rv : RecV) :
    Calls Tryz.prog 44 #[.pointer (some ⟨p, 0, none⟩), .agg (recCells rv)] w (MStep S n w p st none) := by
  obtain ⟨L, hL⟩ : ∃ x, x = w.heap.size := ⟨_, rfl⟩
  obtain ⟨w0, hw0⟩ : ∃ z, z = w.alloc (.cells (recCells rv) 49) := ⟨_, rfl⟩
  have HN0 : Aside (Below w.heap.size w w0) := by rw [hw0]; exact new_alloc _ _
  have HR0 : Aside (RecIn w0 L rv) := by rw [hw0, hL]; exact RecIn.box _ _
  have HH := aside h
  have HSS := aside hS
  have HNO := aside hno
  have hi0 : (Tryz.prog.info? 49).map (·.size) = some (recCells rv).size := by rw [recCells_size]; kernel_rfl
  clear h hS hno
  go_enter Tryz.func44, Tryz.ntmps44
  go_upto_region 1 with fail
  rw [← hw0, ← hL]
  clear hw0 hL
  go_wp2_with (guard_target =~ wpList _ _ _ _ _ _; refine wpList_load_row rfl _ _ rfl L rfl _ (recCells rv) (0, 0) _ HR0.out Tryz.underlying49 rfl hi0 ?_)
  refine (gone_none (HH.out.new HN0.out) HNO.out rv).mono ?_
  rintro e w1 ⟨rfl, hb1⟩
  have HN1 := aside (HN0.out.trans (hb1.mono HN0.out.size))
  clear hb1 hi0
  go_wp2_with fail
  go_ret
  exact step_none HH.out HSS.out HN1.out
theorem bidsL_len (f : Int → Option Int) : ∀ k, (bidsL f k).length ≤ k
  | 0 => Nat.le_refl _
  | k + 1 => by
    have := bidsL_len f k
    rw [bidsL, List.length_append]
    split <;> simp <;> omega
def bdCells (bs : List (Int × Int)) : List Value := bs.flatMap fun x => [.int .i64 x.1, .int .u64 x.2]
theorem bdCells_get (bs : List (Int × Int)) : ∀ j, j < bs.length → (bdCells bs)[j * 2]? = some (.int .i64 bs[j]!.1) ∧ (bdCells bs)[j * 2 + 1]? = some (.int .u64 bs[j]!.2) := by
  induction bs with
  | nil => intro j h; simp at h
  | cons x xs ih =>
    intro j h
    cases j with
    | zero => exact ⟨rfl, rfl⟩
    | succ j =>
      have := ih j (by simpa using h)
      have e : bdCells (x :: xs) = .int .i64 x.1 :: .int .u64 x.2 :: bdCells xs := rfl
      rw [e, show (j + 1) * 2 = j * 2 + 1 + 1 by omega]
      simpa using this
theorem own_bids {base : Nat} {w : World} {v : Value} {bs : List (Int × Int)} (h : w.ownsRow base 60 2 v bs.length (bdCells bs)) : BidsAt w v bs := by
  obtain ⟨a, cap, e, _, hx⟩ := ownsRow_form h
  by_cases h0 : 0 < bs.length
  · obtain ⟨g, ea, _, hg, hj⟩ := hx h0
    subst ea
    refine .inr ⟨g, 0, cap, e, fun _ => hg, fun j hjl => ?_⟩
    have := bdCells_get bs j hjl
    rw [Nat.zero_add]
    exact ⟨hj _ _ this.1, hj _ _ this.2⟩
  · obtain rfl : bs = [] := List.length_eq_zero_iff.1 (by omega)
    rcases h.2 with ⟨e, _⟩ | ⟨g, cap, _, e, _⟩
    · exact .inl ⟨.inl e, rfl⟩
    · exact .inl ⟨.inr ⟨_, _, e⟩, rfl⟩
theorem Tryz.infoBd : (Tryz.prog.info? 60).map (fun i => (i.zero, i.size, i.bytes)) = some (some (.agg #[.int .i64 0, .int .u64 0]), 2, 16) := by kernel_rfl
theorem neqOut (a b c x y z : Int) (w : World) : (binOp .neq 46 (.agg #[.int .i64 a, .int .i64 b, .int .u64 c]) (.agg #[.int .i64 x, .int .i64 y, .int .u64 z])).run Tryz.prog w = .ok (.bool (!(a == x && (b == y && c == z)))) w := by
  have u3 := Tryz.underlying3
  have a3 := Tryz.isAgg3
  have z3 := Tryz.sizeOf3
  have u23 := Tryz.underlying44
  have a23 := Tryz.isAgg44
  have z23 := Tryz.sizeOf44
  rw [run_neq_struct, show (10000 : Nat) = 9999 + 1 from rfl, run_equalIn_agg w 9999 46 _ _ Tryz.structOut Tryz.heldOut]
  simp only [Program.fieldsOf, Tryz.underlying46]
  go_simp
  by_cases h1 : a = x <;> by_cases h2 : b = y <;> by_cases h3 : c = z <;> simp [h1, h2, h3]
theorem late_held {P : Program} {ops : Array Oper} {Q : Exit → Act → World → Prop} {md : Region.Mode} {S : World → Prop} {t : Nat} {j : Nat} {o : Oper} {n : Nat} {listed : Array Bool} {a : Act} {w : World} (hr : Region.ready md ops listed = [j]) (ho : ops[j]? = some o)
    (h : ∀ K : Act → World → Prop, Shut (∀ b u, S u → wpLate P md ops Q S t n (listed.setIfInBounds j true) b u → K b u) → if Region.wanted o (yielded ops a.tmps) = true then Oper.wp P o a w K Q else K (a.put o.dst undef) w) : wpLate P md ops Q S t (n + 1) listed a w :=
  ⟨fun h0 => (by rw [hr] at h0; cases h0), fun k hk => by
    rw [hr] at hk
    obtain rfl := List.mem_singleton.1 hk
    exact wpOp_step ho fun K hK => h K fun b u hs hb => hK b u ⟨.inr hs, hb⟩⟩
theorem step_append_at {ops : Array Oper} {o : Oper} {a : Act} {K : Act → World → Prop} {Q : Exit → Act → World → Prop} {E' : Prop} {w : World} (hgd : o.guard = none) (s x : Operand) (t : TypeId)
    (ho : o.op = .call { callee := .builtin .append, args := #[s, x], argTypes := #[t, t] }) (e : TypeId) (z : Value) (size bytes : Nat) (ht : Tryz.prog.underlying t = some (.slice e)) (hE : (Tryz.prog.info? e).map (fun i => (i.zero, i.size, i.bytes)) = some (some z, size, bytes)) (hzs : z.cells.size = size) (hsz : 0 < size)
    (v : Value) (n : Nat) (xs : List Value) (hs : a.eval s = v) (hown : w.ownsRow 0 e size v n xs) (g : Nat) (y : List Value) (hx : a.eval x = .slice (some ⟨g, 0, none⟩) 1 1) (hy1 : y.length = size) (hy : ∀ j u, y[j]? = some u → w.cell? ⟨g, j, none⟩ = some u) (hone : ∀ u ∈ y, u.oneCell' = true)
    (hlen : n + 1 ≤ maxLen) (hby : (n + 1) * bytes ≤ 140737488355328)
    (h : ∀ v' w', w'.ownsRow 0 e size v' (n + 1) (xs ++ y) → w.grownBy w' v.ownBlock → (v'.ownBlock = v.ownBlock ∨ v'.ownBlock = some w.heap.size) → K (a.put o.dst v') w') :
    if Region.wanted o (yielded ops a.tmps) = true then Oper.wp Tryz.prog o a w K Q else E' := by
  have hw : Region.wanted o (yielded ops a.tmps) = true := by simp [Region.wanted, hgd]
  rw [if_pos hw]
  obtain ⟨i, hi, hz, h1, h2⟩ := info_parts hE
  obtain ⟨v', w', hr, r1, r2, _, r4⟩ := run_append_own_at (P := Tryz.prog) w 0 t o.type e i z size bytes ht hi hz h1 h2 hzs hsz v n xs hown ⟨g, 0, none⟩ 1 1 y (by rw [Nat.one_mul]; exact hy1) (fun j u hu => by
    rw [show (⟨g, 0, none⟩ : Addr).add j = ⟨g, j, none⟩ by simp only [Addr.add]; split <;> simp_all]
    exact hy j u hu) hone hlen hby (Nat.zero_le _)
  unfold Oper.wp execOp
  simp only [ho, resolve, invoke, builtin, Sem.run_bind, Sem.run_pure, Result.andThen_ok, List.map_toArray, List.map_cons, List.map_nil, hs, hx, hr]
  exact h v' w' r1 r2 r4
theorem outCells_len (xs : List OutT) : (outCells xs).length = xs.length * 3 := by
  induction xs with
  | nil => rfl
  | cons x xs ih =>
    have e : outCells (x :: xs) = .int .i64 x.1 :: .int .i64 x.2.1 :: .int .u64 x.2.2 :: outCells xs := rfl
    rw [e, List.length_cons, List.length_cons, List.length_cons, ih, List.length_cons]
    omega
set_option maxHeartbeats 1000000 in
theorem closes_fin {S : Nat → Prop} {n : Nat} {w w7 w8 w9 wA wB wz : World} {p og sg no ns ocap scap lt rqn : Nat} {v : ModV} {st : MSt} {op : Opn} {d : RecD} {nv : Value} {ocur' scur' : Array Value} (h : ModIn S n w p v st) (hS : ∀ k, S k → k < w.heap.size)
    (hlt : op.lot = lt) (hlt2 : lt < st.states.length) (hrq : (st.scene.lots.getD lt (0, 0)).1 = rqn)
    (hb7 : Below w.heap.size w w7) (hno : no = st.owners.length) (hns : ns = st.states.length) (hvo : v.owners = .slice (some ⟨og, 0, none⟩) no ocap) (hoc : no ≤ ocap) (hom : ocap ≤ maxLen)
    (hvs : v.states = .slice (some ⟨sg, 0, none⟩) ns scap) (hsc : ns ≤ scap) (hsm : scap ≤ maxLen)
    (k8 : Keeps (· ≠ og) w7 w8) (ho8 : w8.heap[og]? = some (.cells ocur' 3 (0, 0))) (hos : ocur'.size = ocap) (hoj : ∀ j, j < no → ocur'[j]? = some (.int .i64 ((if d.state = 2 then st.owners.set rqn d.winner else st.owners).getD j 0)))
    (k9 : Keeps (· ≠ sg) w8 w9) (hs9 : w9.heap[sg]? = some (.cells scur' 3 (0, 0))) (hss : scur'.size = scap) (hsj : ∀ j, j < ns → scur'[j]? = some (.int .i64 ((st.states.set lt d.state).getD j 0)))
    (hA : Below w9.heap.size w9 wA) (hgr : wA.grownBy wB v.outs.ownBlock) (hnv : wB.ownsRow 0 46 3 nv (st.outs.length + 1) (outCells st.outs ++ [.int .i64 d.state, .int .i64 d.winner, .int .u64 d.price]))
    (hloc : ∀ k, nv.ownBlock = some k → v.outs.ownBlock = some k ∨ wA.heap.size ≤ k) (kz : Keeps (· ≠ p) wB wz) (hm : MdIn wz p { v with outs := nv, opn := .pointer none }) :
    MStep S n w p st (some (closesS st op d)) (.returned (.bool true)) wz := by
  have hog : v.owners.ownBlock = some og := by rw [hvo]; rfl
  have hsg : v.states.ownBlock = some sg := by rw [hvs]; rfl
  obtain ⟨oc0, hO⟩ := h.owners.block og hog
  obtain ⟨sc0, hSt⟩ := h.states.block sg hsg
  have hogp : og ≠ p := h.here.ne hO (by decide)
  have hsgp : sg ≠ p := h.here.ne hSt (by decide)
  have hos2 : og ≠ sg := fun e => h.ap1 og hog (by rw [e]; exact hsg)
  have hOut : ∀ k, v.outs.ownBlock = some k → k ≠ og ∧ k ≠ sg ∧ k ≠ p := fun k hk => by
    obtain ⟨cc, hc⟩ := h.outs.block k hk
    exact ⟨ne_type hc hO (by decide), ne_type hc hSt (by decide), h.here.ne hc (by decide)⟩
  have kB : Keeps (fun k => v.outs.ownBlock ≠ some k) wA wB := keeps_grown hgr _ (fun k hk => by rw [hk]; simp)
  have k9z : Keeps (fun k => v.outs.ownBlock ≠ some k ∧ k ≠ p) w9 wz := ((keeps_of_new hA _).trans (kB.mono (fun k _ hk => hk.1))).trans (kz.mono (fun k _ hk => hk.2))
  have k8z : Keeps (fun k => k ≠ sg ∧ v.outs.ownBlock ≠ some k ∧ k ≠ p) w8 wz := (k9.mono (fun k _ hk => hk.1)).trans (k9z.mono (fun k _ hk => hk.2))
  have k0z : Keeps (fun k => k ≠ og ∧ k ≠ sg ∧ v.outs.ownBlock ≠ some k ∧ k ≠ p) w wz := ((keeps_of_new hb7 _).trans (k8.mono (fun k _ hk => hk.1))).trans (k8z.mono (fun k _ hk => hk.2))
  have nOut : ∀ k, (∃ cc, w.heap[k]? = some (.cells cc 3 (0, 0))) → v.outs.ownBlock ≠ some k := fun k ⟨cc, hc⟩ e => by
    obtain ⟨c2, h2⟩ := h.outs.block k e
    rw [hc] at h2; injection h2 with h2; injection h2 with _ h2 _; revert h2; decide
  have hoz : wz.heap[og]? = some (.cells ocur' 3 (0, 0)) := whole_keeps ho8 k8z ⟨hos2, nOut og ⟨oc0, hO⟩, hogp⟩
  have hsz : wz.heap[sg]? = some (.cells scur' 3 (0, 0)) := whole_keeps hs9 k9z ⟨nOut sg ⟨sc0, hSt⟩, hsgp⟩
  have s0 := k0z.size
  have hwA : w.heap.size ≤ wA.heap.size := Nat.le_trans hb7.size (Nat.le_trans k8.size (Nat.le_trans k9.size hA.size))
  refine ⟨rfl, fun k => S k ∨ (w.heap.size ≤ k ∧ k < wz.heap.size), ⟨_, ⟨hm, .inl h.own, h.scn, ?_, ?_, ?_, ?_, ?_, h.ap1, h.ap2, h.ap3, rfl, h.tick, h.ended, ?_, h.sok⟩⟩, k0z.mono (fun k _ hk => ⟨fun e => hk (by rw [e]; exact h.owners.2 og hog), fun e => hk (by rw [e]; exact h.states.2 sg hsg), fun e => hk (h.outs.2 k e), fun e => hk (by rw [e]; exact h.own)⟩), fun k hk => hk.imp id (fun h => h.1), fun k hk => by rcases hk with hk | hk; exact Nat.lt_of_lt_of_le (hS k hk) s0; exact hk.2⟩
  · exact (h.lots.keep k0z (fun k hk => by
      obtain ⟨cc, hc⟩ := h.lots.block k hk
      exact ⟨ne_type hc hO (by decide), ne_type hc hSt (by decide), fun e => by
        obtain ⟨c2, h2⟩ := h.outs.block k e
        rw [hc] at h2; injection h2 with h2; injection h2 with _ h2 _; revert h2; decide, h.here.ne hc (by decide)⟩)).wide (fun k hk => .inl hk)
  · show IsI _ wz v.owners (if d.state = 2 then st.owners.set (st.req op.lot.toNat) d.winner else st.owners)
    have e : st.req op.lot.toNat = rqn := by rw [MSt.req, hlt, Int.toNat_natCast, hrq, Int.toNat_natCast]
    have hl : (if d.state = 2 then st.owners.set rqn d.winner else st.owners).length = no := by split <;> simp [hno]
    rw [e, hvo]
    exact isI_of_cur (.inl (h.owners.2 og hog)) hl.symm (by rw [hl]; exact hoc) hom hoz hos (fun j hj => hoj j (by rw [hl] at hj; exact hj))
  · show IsI _ wz v.states (st.states.set op.lot.toNat d.state)
    rw [hlt, Int.toNat_natCast, hvs]
    exact isI_of_cur (.inl (h.states.2 sg hsg)) (by rw [List.length_set, hns]) (by rw [List.length_set, ← hns]; exact hsc) hsm hsz hss (fun j hj => hsj j (by rw [List.length_set, ← hns] at hj; exact hj))
  · have e : outCells (st.outs ++ [(d.state, d.winner, d.price)]) = outCells st.outs ++ [.int .i64 d.state, .int .i64 d.winner, .int .u64 d.price] := by simp [outCells]
    refine ⟨?_, fun k hk => ?_⟩
    · show wz.ownsRow 0 46 3 nv (st.outs ++ [(d.state, d.winner, d.price)]).length _
      rw [List.length_append]
      show wz.ownsRow 0 46 3 nv (st.outs.length + 1) (outCells (st.outs ++ [(d.state, d.winner, d.price)]))
      rw [e]
      have hne : ∀ k, nv.ownBlock = some k → k ≠ p := fun k hk => by
        rcases hloc k hk with e | e
        · exact (hOut k e).2.2
        · have := hS p h.own; omega
      obtain ⟨e1, e2⟩ := hnv
      refine ⟨e1, e2.imp_right ?_⟩
      rintro ⟨g, cap, cur, e3, hg, hh, r⟩
      exact ⟨g, cap, cur, e3, hg, whole_keeps hh kz (hne g (by rw [e3]; rfl)), r⟩
    · rcases hloc k hk with e | e
      · exact .inl (h.outs.2 k e)
      · exact .inr ⟨by omega, Nat.lt_of_lt_of_le (World.ownsRow.lt hnv k hk).2 kz.size⟩
  · exact (h.barred.keep k0z (fun k hk => by
      obtain ⟨cc, hc⟩ := h.barred.block k hk
      exact ⟨fun e => h.ap2 og hog (by rw [← e]; exact hk), fun e => h.ap3 sg hsg (by rw [← e]; exact hk), nOut k ⟨cc, hc⟩, h.here.ne hc (by decide)⟩)).wide (fun k hk => .inl hk)
  · show (st.outs ++ [(d.state, d.winner, d.price)]).length ≤ n + 1
    rw [List.length_append]
    exact Nat.succ_le_succ h.nout
theorem lots_cell {S : Nat → Prop} {w : World} {u : Value} {xs : List (Int × Int)} (h : IsL S w u xs) (k : Nat) (hk : k < xs.length) : ∃ g cap, u = .slice (some ⟨g, 0, none⟩) xs.length cap ∧ S g ∧ w.cell? ⟨g, k * 2, none⟩ = some (.int .i64 (xs.getD k (0, 0)).1) ∧ w.cell? ⟨g, k * 2 + 1, none⟩ = some (.int .i64 (xs.getD k (0, 0)).2) := by
  obtain ⟨a, cap, e, _, hx⟩ := ownsRow_form h.1
  obtain ⟨g, ea, _, hg, hj⟩ := hx (by omega)
  have := ltCells_get xs k hk
  exact ⟨g, cap, by rw [e, ea], h.2 g (by rw [e, ea]; rfl), hj _ _ this.1, hj _ _ this.2⟩
set_option maxHeartbeats 4000000 in
set_option maxRecDepth 100000 in
theorem closes_some {S : Nat → Prop} {n : Nat} {w : World} {p : Nat} {v : ModV} {st : MSt} (h : ModIn S n w p v st) (hS : ∀ k, S k → k < w.heap.size) (hn : n < 1000000000) (hwf : st.Wf) (op : Opn) (hop : st.opn = some op) (rv : RecV) (d : RecD) (hrv : ∃ b l ow, rv = d.toV b l ow) (htk : 0 ≤ d.tick ∧ d.tick ≤ 9223372036854775807) :
    Calls Tryz.prog 44 #[.pointer (some ⟨p, 0, none⟩), .agg (recCells rv)] w (MStep S n w p st (if ClosesP st op d then some (closesS st op d) else none)) := by
  obtain ⟨R, hR⟩ : ∃ R, R = (if ClosesP st op d then some (closesS st op d) else none) := ⟨_, rfl⟩
  rw [← hR]
  have HR := aside hR
  clear hR
  obtain ⟨L, hL⟩ : ∃ x, x = w.heap.size := ⟨_, rfl⟩
  obtain ⟨w0, hw0⟩ : ∃ z, z = w.alloc (.cells (recCells rv) 49) := ⟨_, rfl⟩
  have HN0 : Aside (Below w.heap.size w w0) := by rw [hw0]; exact new_alloc _ _
  have HR0 : RecIn w0 L rv := by rw [hw0, hL]; exact RecIn.box _ _
  have HLw : Aside (w.heap.size ≤ L) := Nat.le_of_eq hL.symm
  have hrr : rv.round = d.round := by obtain ⟨b, l, ow, e⟩ := hrv; rw [e]; rfl
  have hrt : rv.tick = d.tick := by obtain ⟨b, l, ow, e⟩ := hrv; rw [e]; rfl
  have hrs : rv.state = d.state ∧ rv.winner = d.winner ∧ rv.price = d.price := by obtain ⟨b, l, ow, e⟩ := hrv; rw [e]; exact ⟨rfl, rfl, rfl⟩
  have HRS := aside hrs
  have HH := aside h
  have HSS := aside hS
  have HWF := aside hwf
  have HO := aside hop
  obtain ⟨r, mb, bb, hov, hsr, hsm, hsb, hmb, hrnd, hmm, hbm, hlen⟩ : OpnAt S n w v.opn (some op) := by rw [← hop]; exact h.opn
  have HOV := aside hov
  have HSM := aside hsm
  have HLEN := aside hlen
  have HMB := aside hmb
  have HRB : Aside (∃ cs, w.heap[r]? = some (.cells cs 133 (0, 0)) ∧ cs[49]? = some (.map (some mb))) := by obtain ⟨cs, k0, _, _, _, k49, _⟩ := hrnd; exact ⟨cs, k0, k49⟩
  have HMBL : Aside (∃ es ck, w.heap[mb]? = some (.map es ck)) := hmm.block
  have HC0 : Aside (CoAt n w0 p L r mb bb v op rv) := ⟨h.here.new HN0.out, hrnd.keeps (keeps_of_new HN0.out (fun _ => True)) trivial, hmm.new HN0.out, hbm.new HN0.out, HR0⟩
  have HG0 := aside (gone_some (h.new HN0.out) hwf op hop rv (by rw [hrt]; exact htk))
  have hi0 : (Tryz.prog.info? 49).map (·.size) = some (recCells rv).size := by rw [recCells_size]; kernel_rfl
  have hlot := (hwf.opn op hop).1
  have hlens := hwf.lens
  have hnl := hwf.nlots
  clear h hS hwf hop hrnd hmm hbm hlen hov hsr hsm hsb hmb hrv hrs htk
  obtain ⟨g, hg⟩ : ∃ g, g = d.tick - op.tick := ⟨_, rfl⟩
  have HGE := aside hg
  rw [hrr, hrt, ← hg] at HG0
  obtain ⟨lt, hlt⟩ : ∃ q : Nat, op.lot = q := Int.eq_ofNat_of_zero_le hlot.1
  have HLT := aside hlt
  have hlt2 : lt < st.scene.lots.length := by omega
  have HLT2 := aside hlt2
  clear hg hlt hlot HR0 hlt2
  go_enter Tryz.func44, Tryz.ntmps44
  go_upto_region 1 with fail
  rw [← hw0, ← hL]
  clear hw0 hL
  go_wp2_with (guard_target =~ wpList _ _ _ _ _ _; refine wpList_load_row rfl _ _ rfl L rfl _ (recCells rv) (0, 0) _ HC0.out.rc Tryz.underlying49 rfl hi0 ?_)
  refine HG0.out.mono ?_
  rintro e w1 ⟨rfl, hb1⟩
  have HN1 := aside (HN0.out.trans (hb1.mono HN0.out.size))
  have HC1 := aside (HC0.out.new hb1)
  clear hb1 hi0 HC0 HG0
  by_cases hxy : d.round = op.round
  case neg =>
    have HNP : Aside (¬ ClosesP st op d) := fun h => hxy h.1
    rw [if_neg hxy]
    clear hxy hrr hrt
    go_wp2_with fail
    go_ret
    rw [HR.out, if_neg HNP.out]
    exact step_none HH.out HSS.out HN1.out
  case pos =>
  have HXY := aside hxy
  rw [if_pos hxy]
  clear hxy hrr hrt
  have HDUE := aside (due_any (HH.out.new HN1.out) HWF.out)
  obtain ⟨du, hdu⟩ : ∃ x, x = st.due := ⟨_, rfl⟩
  rw [← hdu] at HDUE
  have HDU := aside hdu
  clear hdu
  go_wp2_with fail
  refine HDUE.out.mono ?_
  rintro e w2 ⟨rfl, q2, hw2⟩
  have HN2 : Aside (Below w.heap.size w w2) := by rw [hw2]; exact below_drewN HN1.out q2
  have HC2 : Aside (CoAt n w2 p L r mb bb v op rv) := by rw [hw2]; exact HC1.out.new (new_drewN _ _)
  clear hw2 HC1
  by_cases h2 : g = du
  case neg =>
    have HNP : Aside (¬ ClosesP st op d) := fun h => h2 (by rw [HGE.out, HDU.out]; exact h.2.1)
    have hb2 : (g != du) = true := by simpa using h2
    clear h2
    go_wp2_with fail
    go_ret
    rw [HR.out, if_neg HNP.out]
    exact step_none HH.out HSS.out HN2.out
  case pos =>
  have HGD := aside h2
  have hb2 : (g != du) = false := by simpa using h2
  have HH2 := aside (HH.out.new HN2.out)
  obtain ⟨lg, lcap, hlv, hlS, hl1, hl2⟩ := lots_cell HH2.out.lots lt HLT2.out
  obtain ⟨rq, hrq⟩ : ∃ x, x = (st.scene.lots.getD lt (0, 0)).1 := ⟨_, rfl⟩
  obtain ⟨rs, hrs⟩ : ∃ x, x = (st.scene.lots.getD lt (0, 0)).2 := ⟨_, rfl⟩
  obtain ⟨nlt, hnlt⟩ : ∃ x, x = st.scene.lots.length := ⟨_, rfl⟩
  rw [← hrq] at hl1
  rw [← hrs] at hl2
  have c47 : w2.cell? ⟨p, 47, none⟩ = some (.slice (some ⟨lg, 0, none⟩) nlt lcap) := by rw [hnlt, ← hlv]; exact HC2.out.md.rlots
  have c52 : w2.cell? ⟨p, 52, none⟩ = some (.pointer (some ⟨r, 0, none⟩)) := by rw [← HOV.out]; exact HC2.out.md.opn
  have r2 : w2.cell? ⟨r, 2, none⟩ = some (.int .i64 lt) := by rw [← HLT.out]; exact HC2.out.rnd.lot
  have hli : (lt : Int) < nlt := by have := HLT2.out; rw [hnlt]; omega
  have HLV : Aside (v.scn.lots = .slice (some ⟨lg, 0, none⟩) nlt lcap) := by rw [hnlt]; exact hlv
  have HRQ := aside hrq
  have HRSV := aside hrs
  clear h2 hrq hrs hnlt hlv hlS
  go_upto_region 4 with fail
  clear hb2 c47 c52 r2
  have HSL : Aside (∀ W, Below w2.heap.size w2 W → CoAt n W p L r mb bb v op rv ∧ W.cell? ⟨lg, lt * 2, none⟩ = some (.int .i64 rq) ∧ W.cell? ⟨lg, lt * 2 + 1, none⟩ = some (.int .i64 rs)) := by
    have g1 := cell_lt hl1
    exact fun W hW => ⟨HC2.out.new hW, (hW.cell g1).trans hl1, (hW.cell (p := ⟨lg, lt * 2 + 1, none⟩) g1).trans hl2⟩
  refine wp_region_held_drew (S := fun W => CoAt n W p L r mb bb v op rv ∧ W.cell? ⟨lg, lt * 2, none⟩ = some (.int .i64 rq) ∧ W.cell? ⟨lg, lt * 2 + 1, none⟩ = some (.int .i64 rs)) (by kernel_rfl) (HSL.out _ (new_drew _)) (fun hHeld => ?_)
  refine wpAnyH_take (i := 0) (oi := _) (v := .pointer (some ⟨p, 0, none⟩)) rfl (by kernel_rfl) (by kernel_rfl) (by kernel_rfl) (fun _ _ _ h => h) (Or.inl ⟨by rfl, ?_⟩) hHeld ?_
  · intro W hSw
    go_simp
  try simp only [Act.put, ps]
  refine wpAnyH_take (i := 1) (oi := _) (v := .pointer (some ⟨p, 0, none⟩)) rfl (by kernel_rfl) (by kernel_rfl) (by kernel_rfl) (fun _ _ _ h => h) (Or.inl ⟨by rfl, ?_⟩) hHeld ?_
  · intro W hSw
    go_simp
  try simp only [Act.put, ps]
  refine wpAnyH_take (i := 2) (oi := _) (v := .pointer (some ⟨p, 0, none⟩)) rfl (by kernel_rfl) (by kernel_rfl) (by kernel_rfl) (fun _ _ _ h => h) (Or.inl ⟨by rfl, ?_⟩) hHeld ?_
  · intro W hSw
    go_simp
  try simp only [Act.put, ps]
  refine wpAnyH_take (i := 3) (oi := _) (v := .pointer (some ⟨p, 47, none⟩)) rfl (by kernel_rfl) (by kernel_rfl) (by kernel_rfl) (fun _ _ _ h => h) (Or.inl ⟨by rfl, ?_⟩) hHeld ?_
  · intro W hSw
    go_simp
  try simp only [Act.put, ps]
  refine wpAnyH_take (i := 4) (oi := _) (v := .slice (some ⟨lg, 0, none⟩) nlt lcap) rfl (by kernel_rfl) (by kernel_rfl) (by kernel_rfl) (fun _ _ _ h => h) (Or.inl ⟨by rfl, ?_⟩) hHeld ?_
  · intro W hSw
    have c := hSw.1.md.rlots
    rw [HLV.out] at c
    go_simp
  try simp only [Act.put, ps]
  refine wpAnyH_take (i := 5) (oi := _) (v := .pointer (some ⟨p, 0, none⟩)) rfl (by kernel_rfl) (by kernel_rfl) (by kernel_rfl) (fun _ _ _ h => h) (Or.inl ⟨by rfl, ?_⟩) hHeld ?_
  · intro W hSw
    go_simp
  try simp only [Act.put, ps]
  refine wpAnyH_take (i := 6) (oi := _) (v := .pointer (some ⟨p, 0, none⟩)) rfl (by kernel_rfl) (by kernel_rfl) (by kernel_rfl) (fun _ _ _ h => h) (Or.inl ⟨by rfl, ?_⟩) hHeld ?_
  · intro W hSw
    go_simp
  try simp only [Act.put, ps]
  refine wpAnyH_take (i := 7) (oi := _) (v := .pointer (some ⟨p, 52, none⟩)) rfl (by kernel_rfl) (by kernel_rfl) (by kernel_rfl) (fun _ _ _ h => h) (Or.inl ⟨by rfl, ?_⟩) hHeld ?_
  · intro W hSw
    go_simp
  try simp only [Act.put, ps]
  refine wpAnyH_take (i := 8) (oi := _) (v := .pointer (some ⟨r, 0, none⟩)) rfl (by kernel_rfl) (by kernel_rfl) (by kernel_rfl) (fun _ _ _ h => h) (Or.inl ⟨by rfl, ?_⟩) hHeld ?_
  · intro W hSw
    have c := hSw.1.md.opn
    rw [HOV.out] at c
    go_simp
  try simp only [Act.put, ps]
  refine wpAnyH_take (i := 9) (oi := _) (v := .pointer (some ⟨r, 0, none⟩)) rfl (by kernel_rfl) (by kernel_rfl) (by kernel_rfl) (fun _ _ _ h => h) (Or.inl ⟨by rfl, ?_⟩) hHeld ?_
  · intro W hSw
    go_simp
  try simp only [Act.put, ps]
  refine wpAnyH_take (i := 10) (oi := _) (v := .pointer (some ⟨r, 0, none⟩)) rfl (by kernel_rfl) (by kernel_rfl) (by kernel_rfl) (fun _ _ _ h => h) (Or.inl ⟨by rfl, ?_⟩) hHeld ?_
  · intro W hSw
    go_simp
  try simp only [Act.put, ps]
  refine wpAnyH_take (i := 11) (oi := _) (v := .pointer (some ⟨r, 2, none⟩)) rfl (by kernel_rfl) (by kernel_rfl) (by kernel_rfl) (fun _ _ _ h => h) (Or.inl ⟨by rfl, ?_⟩) hHeld ?_
  · intro W hSw
    go_simp
  try simp only [Act.put, ps]
  refine wpAnyH_take (i := 12) (oi := _) (v := .int .i64 lt) rfl (by kernel_rfl) (by kernel_rfl) (by kernel_rfl) (fun _ _ _ h => h) (Or.inl ⟨by rfl, ?_⟩) hHeld ?_
  · intro W hSw
    have c := hSw.1.rnd.lot
    rw [HLT.out] at c
    go_simp
  try simp only [Act.put, ps]
  refine wpAnyH_take (i := 13) (oi := _) (v := .pointer (some ⟨lg, lt * 2, none⟩)) rfl (by kernel_rfl) (by kernel_rfl) (by kernel_rfl) (fun _ _ _ h => h) (Or.inl ⟨by rfl, ?_⟩) hHeld ?_
  · intro W hSw
    go_simp
  try simp only [Act.put, ps]
  refine wpAnyH_take (i := 14) (oi := _) (v := .agg #[.int .i64 rq, .int .i64 rs]) rfl (by kernel_rfl) (by kernel_rfl) (by kernel_rfl) (fun _ _ _ h => h) (Or.inl ⟨by rfl, ?_⟩) hHeld ?_
  · intro W hSw
    have d1 := hSw.2.1
    have d2 := hSw.2.2
    go_simp
  try simp only [Act.put, ps]
  refine wpAnyH_ready (rs := [15]) (by kernel_rfl) (by simp) ?_
  refine AllReadyH.cons (o := _) rfl (fun K hK => ?_) AllReadyH.nil
  go_simp
  refine hK.out _ (w2.drew.alloc (.cells #[.int .i64 0, .int .i64 0] 63)) (HSL.out _ (new_trans (new_drew w2) (new_alloc _ _))) (fun hHeld => ?_)
  clear hK K
  try simp only [Act.put, ps]
  refine wpAnyH_ready (rs := [16]) (by kernel_rfl) (by simp) ?_
  refine AllReadyH.cons (o := _) rfl (fun K hK => ?_) AllReadyH.nil
  go_simp
  refine hK.out _ (w2.drew.alloc (.cells #[.int .i64 rq, .int .i64 rs] 63)) (HSL.out _ (new_trans (new_drew w2) (new_alloc _ _))) (fun hHeld => ?_)
  clear hK K
  try simp only [Act.put, ps]
  refine wpAnyH_done (by kernel_rfl) ?_ _
  clear hHeld
  go_upto_region 5 with fail
  obtain ⟨X, hX⟩ : ∃ x, x = w2.heap.size := ⟨_, rfl⟩
  obtain ⟨w3, hw3⟩ : ∃ z, z = w2.drew.alloc (.cells #[.int .i64 rq, .int .i64 rs] 63) := ⟨_, rfl⟩
  have HB3 : Aside (Below w2.heap.size w2 w3) := by rw [hw3]; exact new_trans (new_drew w2) (new_alloc _ _)
  have HX3 : Aside (w3.heap[X]? = some (.cells #[.int .i64 rq, .int .i64 rs] 63 (0, 0))) := by rw [hw3, hX]; exact heap_new _ _
  rw [← hw3, ← hX]
  have HXW : Aside (w.heap.size ≤ X) := by rw [hX]; exact HN2.out.size
  have HC3 := aside (HC2.out.new HB3.out)
  have HN3 := aside (HN2.out.trans (HB3.out.mono HN2.out.size))
  obtain ⟨can, hcan⟩ : ∃ q : Nat, st.scene.carriers = q := Int.eq_ofNat_of_zero_le HWF.out.carr.1
  have hcan8 : can ≤ 8 := by have := HWF.out.carr.2; omega
  have HCAN := aside hcan
  have c43 : w3.cell? ⟨p, 43, none⟩ = some (.int .i64 can) := by have := HC3.out.md.rcarriers; rw [HH.out.carriers, hcan] at this; exact this
  have hrs2 : 0 ≤ rs ∧ rs ≤ 16777216 := by rw [HRSV.out]; exact HWF.out.resv lt HLT2.out
  clear hw3 hX HC2 HH2 hl1 hl2 hli hcan HSL
  go_wp2_with fail
  clear c43
  go_loopg [8, 47] can (fun g v8 v47 wr => ∃ k : Nat, k ≤ can ∧ v47 = .int .i64 k ∧ can - k ≤ g ∧ Aside (wr.ownsRow w3.heap.size 60 2 v8 (bidsL op.bids k).length (bdCells (bidsL op.bids k))) ∧ Aside (Below w3.heap.size w3 wr))
  case atStart => exact ⟨0, Nat.zero_le _, rfl, Nat.le_refl _, World.ownsRow_nil _ _ _ _, Below.refl _ _⟩
  case round =>
    obtain ⟨k, hk, rfl, hg, HOB, HB⟩ := hrel
    have HCk : Aside (CoAt n wr p L r mb bb v op rv) := HC3.out.new HB.out
    by_cases hkc : k < can
    · have hki : (k : Int) < can := by omega
      have c52 : wr.cell? ⟨p, 52, none⟩ = some (.pointer (some ⟨r, 0, none⟩)) := by rw [← HOV.out]; exact HCk.out.md.opn
      have r50 := HCk.out.rnd.bids
      have hI : I64 (k : Int) := ⟨by omega, by omega⟩
      cases hbk : op.bids k with
      | none =>
        have HBK := aside hbk
        have e1 : (bidF op.bids k).getD (.int .u64 0) = .int .u64 0 := by simp [bidF, hbk]
        have e2 : (bidF op.bids k).isSome = false := by simp [bidF, hbk]
        have HE1 := aside e1
        have HE2 := aside e2
        have HS : Aside (bidsL op.bids (k + 1) = bidsL op.bids k) := by rw [Aside, bidsL, hbk, List.append_nil]
        clear hbk e1 e2
        go_wp2_with (first
          | (at_lookup; refine wpList_look_ok _ rfl _ _ 131 44 rfl Tryz.underlying131 (zeroU _) bb n (bidF op.bids) rfl HCk.out.bids k rfl hI (.int .u64 0) false HE1.out HE2.out ?_)
          | fail)
        go_roundg (can - (k + 1))
        case measure => omega
        case rel => exact ⟨k + 1, hkc, by go_num, Nat.le_refl _, by rw [HS.out]; exact HOB.out, HB.out⟩
      | some b =>
        have HBK := aside hbk
        have e1 : (bidF op.bids k).getD (.int .u64 0) = .int .u64 b := by simp [bidF, hbk]
        have e2 : (bidF op.bids k).isSome = true := by simp [bidF, hbk]
        have HE1 := aside e1
        have HE2 := aside e2
        have HS : Aside (bidsL op.bids (k + 1) = bidsL op.bids k ++ [((k : Int), b)]) := by rw [Aside, bidsL, hbk]
        have hlk := bidsL_len op.bids k
        have HLK := aside hlk
        have HBS := aside HB.out.size
        clear hbk e1 e2 hlk
        go_wp2_with (first
          | (at_lookup; refine wpList_look_ok _ rfl _ _ 131 44 rfl Tryz.underlying131 (zeroU _) bb n (bidF op.bids) rfl HCk.out.bids k rfl hI (.int .u64 b) true HE1.out HE2.out ?_)
          | (at_builtin; refine wpList_append_one rfl _ _ 51 60 rfl (.agg #[.int .i64 0, .int .u64 0]) 2 16 Tryz.underlying51 Tryz.infoBd rfl (by decide) w3.heap.size _ (bidsL op.bids k).length _ rfl (World.ownsRow.alloc HOB.out _) wr.heap.size [.int .i64 k, .int .u64 b] ?c1 ?c2 rfl ?c3 ?c4 ?c5 ?c6 ?_)
          | fail)
        case c1 => rfl
        case c2 => intro u hu; rcases List.mem_cons.1 hu with rfl | hu; rfl; obtain rfl := List.mem_singleton.1 hu; rfl
        case c3 => intro j y hy; rw [cell_new]; simpa using hy
        case c4 => have := HLK.out; unfold maxLen; omega
        case c5 => have := HLK.out; omega
        case c6 => have := HBS.out; simp; omega
        intro v' w4 hown hgrow
        have HO4 : Aside (w4.ownsRow w3.heap.size 60 2 v' (bidsL op.bids (k + 1)).length (bdCells (bidsL op.bids (k + 1)))) := by
          rw [HS.out, List.length_append]
          have e : bdCells (bidsL op.bids k ++ [((k : Int), b)]) = bdCells (bidsL op.bids k) ++ [.int .i64 k, .int .u64 b] := by simp [bdCells]
          rw [e]
          exact hown
        have HB4 : Aside (Below w3.heap.size w3 w4) := (HB.out.alloc HBS.out _).grown hgrow (by have := HBS.out; simp; omega) (fun j hj => ownBlock_ge HOB.out j hj)
        clear hown hgrow
        go_wp2_with fail
        go_roundg (can - (k + 1))
        case measure => omega
        case rel => exact ⟨k + 1, hkc, by go_num, Nat.le_refl _, HO4.out, HB4.out⟩
    · have hki : ¬ (k : Int) < can := by omega
      obtain rfl : can = k := by omega
      obtain ⟨x1, x2, x3, hx⟩ : ∃ a b c, vickOf (bidsL op.bids can) rs = (a, b, c) := ⟨_, _, _, rfl⟩
      have HX := aside hx
      have hOF := of_any (bidsL op.bids can) _ rs wr (own_bids HOB.out) (by have := bidsL_len op.bids can; omega)
      have HOF : Aside (Calls Tryz.prog 18 _ wr fun e w' => e = .returned (.agg #[.int .i64 x1, .int .i64 x2, .int .u64 x3]) ∧ Below wr.heap.size wr w') := hOF.mono (fun e w' hh => ⟨by rw [hh.1, hx]; rfl, hh.2⟩)
      have cX1 : wr.cell? ⟨X, 1, none⟩ = some (.int .i64 rs) := cell_whole (whole_keeps HX3.out (below_keeps HB.out) (whole_lt HX3.out)) 1
      have hrm : rs % 18446744073709551616 = rs := by omega
      clear hx hOF hki
      go_wp2_with fail
      refine HOF.out.mono ?_
      rintro e w5 ⟨rfl, hb5⟩
      have HB5 := aside hb5
      clear hb5 cX1 hrm HOF
      go_upto_region 14 with fail
      obtain ⟨W, hW⟩ : ∃ x, x = w5.heap.size := ⟨_, rfl⟩
      obtain ⟨w6, hw6⟩ : ∃ z, z = w5.alloc (.cells #[.int .i64 x1, .int .i64 x2, .int .u64 x3] 46) := ⟨_, rfl⟩
      have HB6 : Aside (Below w3.heap.size w3 w6) := by rw [hw6]; exact (HB.out.trans (HB5.out.mono HB.out.size)).alloc (Nat.le_trans HB.out.size HB5.out.size) _
      have HW6 : Aside (w6.heap[W]? = some (.cells #[.int .i64 x1, .int .i64 x2, .int .u64 x3] 46 (0, 0))) := by rw [hw6, hW]; exact heap_new _ _
      have HWW : Aside (w3.heap.size ≤ W) := by rw [hW]; exact Nat.le_trans HB.out.size HB5.out.size
      rw [← hw6, ← hW]
      clear hw6 hW HB5 HB HOB HCk
      obtain ⟨s, hs⟩ : ∃ s, s = d.state := ⟨_, rfl⟩
      obtain ⟨wi, hwi⟩ : ∃ s, s = d.winner := ⟨_, rfl⟩
      obtain ⟨pr, hpr⟩ : ∃ s, s = d.price := ⟨_, rfl⟩
      have HSt := aside hs
      have HWi := aside hwi
      have HPr := aside hpr
      have HC6 := aside (HC3.out.new HB6.out)
      have e40 : w6.cell? ⟨L, 40, none⟩ = some (.int .i64 s) := by rw [hs, ← HRS.out.1]; exact HC6.out.rc.state
      have cW0 : w6.cell? ⟨W, 0, none⟩ = some (.int .i64 x1) := cell_whole HW6.out 0
      obtain ⟨B, hB⟩ : ∃ B, B = decide (x1 = 2 ∧ s = 4) := ⟨_, rfl⟩
      have HBB := aside hB
      clear hs hwi hpr hB
      go_cut [83] (fun s wx => s = .bool B ∧ w6 = wx)
      case first =>
        by_cases h1 : x1 = 2
        · have hb1 : (x1 == 2) = true := by simpa using h1
          have HE : Aside (B = (s == 4)) := by
            rw [Aside, HBB.out, show (s == 4) = decide (s = 4) from rfl]
            exact decide_eq_decide.2 ⟨fun h => h.2, fun h => ⟨h1, h⟩⟩
          clear h1
          go_wp2_with fail
          go_meet
          case rel => exact ⟨by rw [HE.out], rfl⟩
        · have hb1 : (x1 == 2) = false := by simpa using h1
          have HE : Aside (B = false) := by rw [Aside, HBB.out]; exact decide_eq_false (fun h => h1 h.1)
          clear h1
          go_wp2_with fail
          go_meet
          case rel => exact ⟨by rw [HE.out], rfl⟩
      case rest =>
      obtain ⟨rfl, hwc⟩ := hcut
      subst hwc
      obtain ⟨y1, hy1⟩ : ∃ y, y = (if x1 = 2 ∧ s = 4 then (4 : Int) else x1) := ⟨_, rfl⟩
      have HY1 := aside hy1
      clear hy1 e40 cW0
      go_upto_if 83 with fail
      go_cut [] (fun wx => Aside (wx.heap[W]? = some (.cells #[.int .i64 y1, .int .i64 x2, .int .u64 x3] 46 (0, 0)) ∧ Keeps (· ≠ W) w6 wx))
      case first =>
        cases B with
        | true =>
          have hB := of_decide_eq_true HBB.out.symm
          have HY : Aside (y1 = 4) := by rw [Aside, HY1.out, if_pos hB]
          have cW0 : w6.cell? ⟨W, 0, none⟩ = some (.int .i64 x1) := cell_whole HW6.out 0
          have fW0 := frozen_whole HW6.out 0
          clear hB
          go_wp2_with fail
          go_meet
          case rel => exact ⟨by rw [HY.out]; exact whole_set HW6.out 0 _, (Keeps.refl _ _).setCell (p := ⟨W, 0, none⟩) (.inr (fun h => h rfl)) _⟩
        | false =>
          have hB := of_decide_eq_false HBB.out.symm
          have HY : Aside (y1 = x1) := by rw [Aside, HY1.out, if_neg hB]
          clear hB
          go_wp2_with fail
          go_meet
          case rel => exact ⟨by rw [HY.out]; exact HW6.out, Keeps.refl _ _⟩
      case rest =>
      have hc := hcut.out
      have HW7 := aside hc.1
      have HK7 := aside hc.2
      clear hcut hc
      obtain ⟨w7, hw7⟩ : ∃ z, z = wc := ⟨_, rfl⟩
      rw [← hw7] at HW7 HK7 ⊢
      clear hw7 wc HW6
      have HLW3 : Aside (L < w3.heap.size ∧ p < w3.heap.size ∧ r < w3.heap.size ∧ X < w3.heap.size) := ⟨HC3.out.rc.lt, HC3.out.md.lt, HC3.out.rnd.lt, whole_lt HX3.out⟩
      have HR7 : Aside (RecIn w7 L rv) := HC6.out.rc.keeps HK7.out (by have := HLW3.out; have := HWW.out; omega)
      have HWANT : Aside (wantM st op d = (y1, x2, x3)) := by
        rw [Aside, wantM, HCAN.out, HLT.out, Int.toNat_natCast, Int.toNat_natCast, ← HRSV.out, HX.out, HY1.out, ← HSt.out]
        by_cases hh : x1 = 2 ∧ s = 4
        · rw [if_pos hh, if_pos hh]
        · rw [if_neg hh, if_neg hh]
      have b0 : w7.cell? ⟨W, 0, none⟩ = some (.int .i64 y1) := cell_whole HW7.out 0
      have b1 : w7.cell? ⟨W, 1, none⟩ = some (.int .i64 x2) := cell_whole HW7.out 1
      have b2 : w7.cell? ⟨W, 2, none⟩ = some (.int .u64 x3) := cell_whole HW7.out 2
      have e40 : w7.cell? ⟨L, 40, none⟩ = some (.int .i64 s) := by rw [HSt.out, ← HRS.out.1]; exact HR7.out.state
      have e41 : w7.cell? ⟨L, 41, none⟩ = some (.int .i64 wi) := by rw [HWi.out, ← HRS.out.2.1]; exact HR7.out.winner
      have e42 : w7.cell? ⟨L, 42, none⟩ = some (.int .u64 pr) := by rw [HPr.out, ← HRS.out.2.2]; exact HR7.out.price
      have hne := neqOut y1 x2 x3 s wi pr
      by_cases heq : y1 = s ∧ x2 = wi ∧ x3 = pr
      case neg =>
        have HNP : Aside (¬ ClosesP st op d) := fun h => heq (by
          have := h.2.2
          rw [HWANT.out, ← HSt.out, ← HWi.out, ← HPr.out] at this
          injection this with h1 h2
          injection h2 with h2 h3
          exact ⟨h1, h2, h3⟩)
        have hbn : (y1 == s && (x2 == wi && x3 == pr)) = false := by
          by_cases a1 : y1 = s <;> by_cases a2 : x2 = wi <;> by_cases a3 : x3 = pr <;> simp [a1, a2, a3]
          exact absurd ⟨a1, a2, a3⟩ heq
        rw [hbn] at hne
        have HB7 : Aside (Below w.heap.size w w7) := by
          have h1 : Below w.heap.size w w6 := HN3.out.trans (HB6.out.mono HN3.out.size)
          exact h1.trans ((HK7.out.mono (K' := (· < w.heap.size)) (fun k _ hk => by have := HWW.out; have := HN3.out.size; omega)).below h1.size)
        clear heq hbn
        go_wp2_with fail
        go_ret
        rw [HR.out, if_neg HNP.out]
        exact step_none HH.out HSS.out HB7.out
      case pos =>
      obtain ⟨q1, q2, q3⟩ := heq
      subst q1 q2 q3
      have HCP : Aside (ClosesP st op d) := ⟨HXY.out, by rw [← HGE.out, ← HDU.out]; exact HGD.out, by rw [HWANT.out, ← HSt.out, ← HWi.out, ← HPr.out]⟩
      have hbn : (y1 == y1 && (x2 == x2 && x3 == x3)) = true := by simp
      rw [hbn] at hne
      clear hbn
      go_upto_region 18 with fail
      have HB7 : Aside (Below w.heap.size w w7) := by
        have h1 : Below w.heap.size w w6 := HN3.out.trans (HB6.out.mono HN3.out.size)
        exact h1.trans ((HK7.out.mono (K' := (· < w.heap.size)) (fun k _ hk => by have := HWW.out; have := HN3.out.size; omega)).below h1.size)
      have HM7 : Aside (MdIn w7 p v) := HC6.out.md.keeps HK7.out (by have := HLW3.out; have := HWW.out; omega)
      have HX7 : Aside (w7.heap[X]? = some (.cells #[.int .i64 rq, .int .i64 rs] 63 (0, 0))) := whole_keeps (whole_keeps HX3.out (below_keeps HB6.out) HLW3.out.2.2.2) HK7.out (by have := HLW3.out; have := HWW.out; omega)
      have HRN7 : Aside (RndIn w7 r op mb bb) := HC6.out.rnd.keeps HK7.out (by have := HLW3.out; have := HWW.out; omega)
      have hreq := HWF.out.reqs lt HLT2.out
      rw [← HRQ.out] at hreq
      obtain ⟨rqn, hrqn⟩ : ∃ q : Nat, rq = q := Int.eq_ofNat_of_zero_le hreq.1
      have HI7 : Aside (IsI S w7 v.owners st.owners ∧ IsI S w7 v.states st.states ∧ IsO S w7 v.outs st.outs) := ⟨HH.out.owners.keeps (below_keeps HB7.out) (fun k hk => HSS.out k hk), HH.out.states.keeps (below_keeps HB7.out) (fun k hk => HSS.out k hk), HH.out.outs.keeps (below_keeps HB7.out) (fun k hk => HSS.out k hk)⟩
      obtain ⟨og, ocap, ocur, hvo, hoS, hoc, hom, hoh, hos, hoj⟩ := HI7.out.1.cur (by omega)
      obtain ⟨sg, scap, scur, hvs, hsS, hsc, hsm, hsh, hss, hsj⟩ := HI7.out.2.1.cur (by rw [HWF.out.lens]; have := HLT2.out; omega)
      obtain ⟨no, hno⟩ : ∃ x, x = st.owners.length := ⟨_, rfl⟩
      obtain ⟨ns, hns⟩ : ∃ x, x = st.states.length := ⟨_, rfl⟩
      rw [← hno] at hvo hoc hoj hreq
      rw [← hns] at hvs hsc hsj
      have hrn : rqn < no := by omega
      have hln : lt < ns := by rw [hns, HWF.out.lens]; exact HLT2.out
      have hop_ : og ≠ p := HM7.out.ne hoh (by decide)
      have hsp : sg ≠ p := HM7.out.ne hsh (by decide)
      have hos_ : og ≠ sg := fun e => HH.out.ap1 og (by rw [hvo]; rfl) (by rw [hvs, e]; rfl)
      have hoW : og ≠ W := by have := HSS.out og hoS; have := HWW.out; have := HN3.out.size; omega
      have hsW : sg ≠ W := by have := HSS.out sg hsS; have := HWW.out; have := HN3.out.size; omega
      have hor : og ≠ r := fun e => by obtain ⟨cs, hc, _⟩ := HRN7.out; rw [← e] at hc; rw [hoh] at hc; injection hc with hc; injection hc with _ hc _; revert hc; decide
      have HVO := aside hvo
      have HVS := aside hvs
      have HOC := aside hoc
      have HOM := aside hom
      have HOH := aside hoh
      have HOS := aside hos
      have HOJ := aside hoj
      have HSC := aside hsc
      have HSM2 := aside hsm
      have HSH := aside hsh
      have HSSZ := aside hss
      have HSJ := aside hsj
      have HNOO := aside hno
      have HNSS := aside hns
      have HRQN := aside hrqn
      clear hvo hoS hoc hom hoh hos hoj hvs hsS hsc hsm hsh hss hsj hno hns hreq e40 e41 e42 b1 b2 hne
      go_upto_if 91 with fail
      go_cut [] (fun wx => Aside (∃ ocur', wx.heap[og]? = some (.cells ocur' 3 (0, 0)) ∧ ocur'.size = ocap ∧ (∀ j, j < no → ocur'[j]? = some (.int .i64 ((if y1 = 2 then st.owners.set rqn x2 else st.owners).getD j 0))) ∧ Keeps (· ≠ og) w7 wx))
      case first =>
        by_cases h2 : y1 = 2
        · have H2 := aside h2
          have hb : (y1 == 2) = true := by simpa using h2
          have c49 : w7.cell? ⟨p, 49, none⟩ = some (.slice (some ⟨og, 0, none⟩) no ocap) := by rw [← HVO.out]; exact HM7.out.owners
          have cX0 : w7.cell? ⟨X, 0, none⟩ = some (.int .i64 rqn) := by rw [← HRQN.out]; exact cell_whole HX7.out 0
          have cW1 : w7.cell? ⟨W, 1, none⟩ = some (.int .i64 x2) := cell_whole HW7.out 1
          have cg : w7.cell? ⟨og, rqn, none⟩ = some (.int .i64 (st.owners.getD rqn 0)) := (cell_whole HOH.out rqn).trans (HOJ.out rqn hrn)
          have fg := frozen_whole HOH.out rqn
          have hri : (rqn : Int) < no := by omega
          have hsz : rqn < ocur.size := by rw [HOS.out]; exact Nat.lt_of_lt_of_le hrn HOC.out
          have HSZ := aside hsz
          clear h2 hsz
          go_upto_region 19 with fail
          go_region
          go_wp2_with fail
          go_meet
          case rel =>
            refine ⟨ocur.setIfInBounds rqn (.int .i64 x2), whole_set HOH.out rqn _, by simpa using HOS.out, fun j hj => ?_, ((Keeps.refl _ w7).setCell (p := ⟨og, rqn, none⟩) (.inr (fun h => h rfl)) _).drew⟩
            rw [if_pos H2.out]
            by_cases e : j = rqn
            · subst e
              rw [Array.getElem?_setIfInBounds_self_of_lt HSZ.out, List.getD_eq_getElem?_getD, List.getElem?_set_self (by rw [← HNOO.out]; exact hj)]
              rfl
            · rw [Array.getElem?_setIfInBounds_ne (Ne.symm e), HOJ.out j hj, List.getD_eq_getElem?_getD, List.getD_eq_getElem?_getD, List.getElem?_set_ne (Ne.symm e)]
        · have H2 := aside h2
          have hb : (y1 == 2) = false := by simpa using h2
          clear h2
          go_wp2_with fail
          go_meet
          case rel => exact ⟨ocur, HOH.out, HOS.out, fun j hj => by rw [if_neg H2.out]; exact HOJ.out j hj, Keeps.refl _ _⟩
      case rest =>
      obtain ⟨ocur', h8, h8s, h8j, k8⟩ := hcut.out
      obtain ⟨w8, hw8⟩ : ∃ z, z = wc := ⟨_, rfl⟩
      rw [← hw8] at h8 k8 ⊢
      have HO8 := aside h8
      have HOS8 := aside h8s
      have HOJ8 := aside h8j
      have HK8 := aside k8
      clear hcut hw8 wc h8 h8s h8j k8 b0
      have HM8 := aside (HM7.out.keeps HK8.out hop_.symm)
      have HW8 : Aside (w8.heap[W]? = some (.cells #[.int .i64 y1, .int .i64 x2, .int .u64 x3] 46 (0, 0))) := whole_keeps HW7.out HK8.out hoW.symm
      have HSH8 : Aside (w8.heap[sg]? = some (.cells scur 3 (0, 0))) := whole_keeps HSH.out HK8.out hos_.symm
      have HRN8 : Aside (RndIn w8 r op mb bb) := HRN7.out.keeps HK8.out hor.symm
      have c50 : w8.cell? ⟨p, 50, none⟩ = some (.slice (some ⟨sg, 0, none⟩) ns scap) := by rw [← HVS.out]; exact HM8.out.states
      have c52 : w8.cell? ⟨p, 52, none⟩ = some (.pointer (some ⟨r, 0, none⟩)) := by rw [← HOV.out]; exact HM8.out.opn
      have r2 : w8.cell? ⟨r, 2, none⟩ = some (.int .i64 lt) := by rw [← HLT.out]; exact HRN8.out.lot
      have b0 : w8.cell? ⟨W, 0, none⟩ = some (.int .i64 y1) := cell_whole HW8.out 0
      have cs : w8.cell? ⟨sg, lt, none⟩ = some (.int .i64 (st.states.getD lt 0)) := (cell_whole HSH8.out lt).trans (HSJ.out lt hln)
      have fs := frozen_whole HSH8.out lt
      have hli : (lt : Int) < ns := by omega
      go_upto_region 20 with fail
      go_region
      go_upto_region 21 with fail
      obtain ⟨w9, hw9⟩ : ∃ z, z = (w8.setCell ⟨sg, lt, none⟩ (.int .i64 y1)).drew := ⟨_, rfl⟩
      have HK9 : Aside (Keeps (· ≠ sg) w8 w9) := by rw [hw9]; exact ((Keeps.refl _ w8).setCell (p := ⟨sg, lt, none⟩) (.inr (fun h => h rfl)) _).drew
      have HS9 : Aside (w9.heap[sg]? = some (.cells (scur.setIfInBounds lt (.int .i64 y1)) 3 (0, 0))) := by rw [hw9]; exact whole_set HSH8.out lt _
      rw [← hw9]
      have HM9 := aside (HM8.out.keeps HK9.out hsp.symm)
      have HW9 : Aside (w9.heap[W]? = some (.cells #[.int .i64 y1, .int .i64 x2, .int .u64 x3] 46 (0, 0))) := whole_keeps HW8.out HK9.out hsW.symm
      have HI9 : Aside (IsO S w9 v.outs st.outs) := (HI7.out.2.2.keep HK8.out (fun k hk e => by
        obtain ⟨cc, hc⟩ := HI7.out.2.2.block k hk
        rw [e, HOH.out] at hc; injection hc with hc; injection hc with _ hc _; revert hc; decide)).keep HK9.out (fun k hk e => by
        obtain ⟨cc, hc⟩ := HI7.out.2.2.block k hk
        rw [e, HSH.out] at hc; injection hc with hc; injection hc with _ hc _; revert hc; decide)
      have hnout := HH.out.nout
      clear hw9 c50 c52 r2 b0 cs fs hli
      generalize W = BX at *
      obtain ⟨oa, oc, hov2⟩ := HI9.out.form
      obtain ⟨nout, hnout2⟩ : ∃ x, x = st.outs.length := ⟨_, rfl⟩
      rw [← hnout2] at hov2 hnout
      have HVO2 := aside hov2
      have HNOUT := aside hnout2
      obtain ⟨cp, hcp⟩ : ∃ c : List Value, c = [.int .i64 y1, .int .i64 x2, .int .u64 x3] := ⟨_, rfl⟩
      have hi3 : (Tryz.prog.info? 46).map (·.size) = some cp.length := by rw [hcp]; kernel_rfl
      have HCR : Aside (∀ W : World, W.heap[BX]? = some (.cells #[.int .i64 y1, .int .i64 x2, .int .u64 x3] 46 (0, 0)) → W.rangeAt BX 0 cp) := by
        rw [hcp]
        intro W hW j u hu
        rw [Nat.zero_add, cell_whole hW]
        simpa using hu
      have HCPE := aside hcp
      have hBXo : ∀ k, v.outs.ownBlock = some k → k ≠ BX := fun k hk e => by have := HSS.out k (HI9.out.2 k hk); have := HWW.out; have := HN3.out.size; omega
      have hBXp : BX ≠ p := by have := HLW3.out; have := HWW.out; omega
      have HBXO := aside hBXo
      clear hov2 hnout2 hcp hBXo
      have HS0 : Aside (MdIn w9.drew p v ∧ w9.drew.heap[BX]? = some (.cells #[.int .i64 y1, .int .i64 x2, .int .u64 x3] 46 (0, 0))) := ⟨HM9.out.new (new_drew _), HW9.out⟩
      refine late_begin (t := 10) (S := fun W => MdIn W p v ∧ W.heap[BX]? = some (.cells #[.int .i64 y1, .int .i64 x2, .int .u64 x3] 46 (0, 0))) (by kernel_rfl) ?_
      refine late_free (i := 0) (oi := _) (v := .pointer (some ⟨p, 0, none⟩)) rfl (by kernel_rfl) (by kernel_rfl) (by kernel_rfl) (by decide) (fun _ _ _ h => h) (Or.inl ⟨by rfl, ?_⟩) (.inr HS0.out) ?_
      · intro W hSw
        go_simp
      try simp only [Act.put, ps]
      refine late_free (i := 1) (oi := _) (v := .pointer (some ⟨p, 0, none⟩)) rfl (by kernel_rfl) (by kernel_rfl) (by kernel_rfl) (by decide) (fun _ _ _ h => h) (Or.inl ⟨by rfl, ?_⟩) (.inr HS0.out) ?_
      · intro W hSw
        go_simp
      try simp only [Act.put, ps]
      refine late_free (i := 2) (oi := _) (v := .pointer (some ⟨p, 0, none⟩)) rfl (by kernel_rfl) (by kernel_rfl) (by kernel_rfl) (by decide) (fun _ _ _ h => h) (Or.inl ⟨by rfl, ?_⟩) (.inr HS0.out) ?_
      · intro W hSw
        go_simp
      try simp only [Act.put, ps]
      refine late_free (i := 3) (oi := _) (v := .pointer (some ⟨p, 51, none⟩)) rfl (by kernel_rfl) (by kernel_rfl) (by kernel_rfl) (by decide) (fun _ _ _ h => h) (Or.inl ⟨by rfl, ?_⟩) (.inr HS0.out) ?_
      · intro W hSw
        go_simp
      try simp only [Act.put, ps]
      refine late_load (i := 4) (oi := _) (v := .slice oa nout oc) rfl (by kernel_rfl) (by kernel_rfl) (by kernel_rfl) (by decide) (by kernel_rfl) (by rfl) (fun _ _ _ h => h) (Or.inl ⟨by rfl, ?_⟩) HS0.out ?_
      · intro W hSw
        have c := hSw.1.outs
        rw [HVO2.out] at c
        go_simp
      try simp only [Act.put, ps]
      refine late_load (i := 5) (oi := _) (v := .agg cp.toArray) rfl (by kernel_rfl) (by kernel_rfl) (by kernel_rfl) (by decide) (by kernel_rfl) (by rfl) (fun _ _ _ h => h) (yieldsIf_load_mid (by rfl) 46 (.tmp 12) rfl BX 0 rfl cp _ (fun W hW => HCR.out W hW.2) Tryz.underlying46 rfl hi3) HS0.out ?_
      try simp only [Act.put, ps]
      rw [HCPE.out]
      refine late_held (j := 6) (o := _) (by kernel_rfl) rfl fun K hK => ?_
      go_simp
      obtain ⟨wA, hwA⟩ : ∃ z, z = w9.drew.alloc (.cells #[.int .i64 y1, .int .i64 x2, .int .u64 x3] 46) := ⟨_, rfl⟩
      have HBA : Aside (Below w9.heap.size w9 wA) := by rw [hwA]; exact new_trans (new_drew w9) (new_alloc _ _)
      have HGA : Aside (wA.heap[w9.heap.size]? = some (.cells #[.int .i64 y1, .int .i64 x2, .int .u64 x3] 46 (0, 0))) := by rw [hwA]; exact heap_new _ _
      have HMA : Aside (MdIn wA p v) := HM9.out.new HBA.out
      have HWA : Aside (wA.heap[BX]? = some (.cells #[.int .i64 y1, .int .i64 x2, .int .u64 x3] 46 (0, 0))) := whole_new HW9.out HBA.out
      have HS1 : Aside (MdIn (w9.drew.alloc (.cells #[.int .i64 y1, .int .i64 x2, .int .u64 x3] 46)) p v ∧ (w9.drew.alloc (.cells #[.int .i64 y1, .int .i64 x2, .int .u64 x3] 46)).heap[BX]? = some (.cells #[.int .i64 y1, .int .i64 x2, .int .u64 x3] 46 (0, 0))) := by rw [← hwA]; exact ⟨HMA.out, HWA.out⟩
      refine hK.out _ (w9.drew.alloc (.cells #[.int .i64 y1, .int .i64 x2, .int .u64 x3] 46)) HS1.out ?_
      clear hK K
      try simp only [Act.put, ps]
      rw [← hwA]
      obtain ⟨gA, hgA⟩ : ∃ x, x = w9.heap.size := ⟨_, rfl⟩
      rw [← hgA] at HGA ⊢
      clear hwA hgA HS1
      refine late_held (j := 7) (o := _) (by kernel_rfl) rfl fun K hK => ?_
      refine step_append_at rfl _ _ 65 rfl 46 (.agg #[.int .i64 0, .int .i64 0, .int .u64 0]) 3 24 Tryz.underlying65 Tryz.infoOut rfl (by decide) (.slice oa nout oc) nout (outCells st.outs) rfl ?_ gA [.int .i64 y1, .int .i64 x2, .int .u64 x3] rfl rfl ?_ ?_ ?_ ?_ ?_
      · have := (HI9.out.keeps (keeps_of_new HBA.out (fun _ => True)) (fun _ _ => trivial)).1
        rw [HVO2.out, ← HNOUT.out] at this
        exact this
      · intro j u hu; rw [cell_whole HGA.out]; simpa using hu
      · intro u hu; rcases List.mem_cons.1 hu with rfl | hu; rfl; rcases List.mem_cons.1 hu with rfl | hu; rfl; obtain rfl := List.mem_singleton.1 hu; rfl
      · unfold maxLen; omega
      · omega
      intro nv wB hnv hgr hloc
      obtain ⟨na, nc, rfl, _⟩ := ownsRow_form hnv
      rw [← HVO2.out] at hgr hloc
      have HNV := aside hnv
      have HGR := aside hgr
      have HLOC : Aside (∀ k, (Value.slice na (nout + 1) nc).ownBlock = some k → v.outs.ownBlock = some k ∨ wA.heap.size ≤ k) := fun k hk => by
        rcases hloc with e | e
        · exact .inl (e ▸ hk)
        · rw [e] at hk; exact .inr (by injection hk with hk; omega)
      have HMB : Aside (MdIn wB p v) := HMA.out.keeps (keeps_grown hgr (fun k => v.outs.ownBlock ≠ some k) (fun k hk => by rw [hk]; simp)) (fun e => by
        obtain ⟨cc, hc⟩ := HI9.out.block p e
        exact (HM9.out.ne hc (by decide)) rfl)
      have HWB : Aside (wB.heap[BX]? = some (.cells #[.int .i64 y1, .int .i64 x2, .int .u64 x3] 46 (0, 0))) := whole_keeps HWA.out (keeps_grown hgr (fun k => v.outs.ownBlock ≠ some k) (fun k hk => by rw [hk]; simp)) (fun e => HBXO.out BX e rfl)
      clear hnv hgr hloc
      have HS2 := aside (And.intro HMB.out HWB.out)
      refine hK.out _ wB HS2.out ?_
      clear hK K
      try simp only [Act.put, ps]
      refine late_free (i := 8) (oi := _) (v := .pointer (some ⟨p, 0, none⟩)) rfl (by kernel_rfl) (by kernel_rfl) (by kernel_rfl) (by decide) (fun _ _ _ h => h) (Or.inl ⟨by rfl, ?_⟩) (.inr HS2.out) ?_
      · intro W hSw
        go_simp
      try simp only [Act.put, ps]
      refine late_free (i := 9) (oi := _) (v := .pointer (some ⟨p, 51, none⟩)) rfl (by kernel_rfl) (by kernel_rfl) (by kernel_rfl) (by decide) (fun _ _ _ h => h) (Or.inl ⟨by rfl, ?_⟩) (.inr HS2.out) ?_
      · intro W hSw
        go_simp
      try simp only [Act.put, ps]
      have c51 := HMB.out.outs
      have f51 := HMB.out.free 51
      refine late_one (j := 10) (o := _) (by kernel_rfl) rfl (by rfl) fun K hK => ?_
      go_simp
      obtain ⟨w11, hw11⟩ : ∃ z, z = wB.setCell ⟨p, 51, none⟩ (.slice na (nout + 1) nc) := ⟨_, rfl⟩
      have HKz : Aside (Keeps (· ≠ p) wB w11) := by rw [hw11]; exact (Keeps.refl _ _).setCell (p := ⟨p, 51, none⟩) (.inr (fun h => h rfl)) _
      have HM11 : Aside (MdIn w11 p { v with outs := .slice na (nout + 1) nc }) := by rw [hw11]; exact HMB.out.setOuts _
      rw [← hw11]
      clear hw11 c51 f51
      refine hK.out _ w11 ?_
      clear hK K
      try simp only [Act.put, ps]
      refine late_done (by kernel_rfl) ?_ _
      go_upto_region 22 with fail
      have c52 := HM11.out.opn
      have f52 := HM11.out.free 52
      go_wp2_with fail
      go_ret
      rw [HR.out, if_pos HCP.out]
      exact closes_fin HH.out HSS.out HLT.out (by rw [← HNSS.out]; exact hln) (by rw [← HRQ.out]; exact HRQN.out) HB7.out HNOO.out HNSS.out HVO.out HOC.out HOM.out HVS.out HSC.out HSM2.out HK8.out HO8.out HOS8.out
        (fun j hj => by rw [← HSt.out, ← HWi.out]; exact HOJ8.out j hj) HK9.out HS9.out (by simpa using HSSZ.out)
        (fun j hj => by
          rw [← HSt.out]
          by_cases e : j = lt
          · subst e
            rw [Array.getElem?_setIfInBounds_self_of_lt (by rw [HSSZ.out]; exact Nat.lt_of_lt_of_le hln HSC.out), List.getD_eq_getElem?_getD, List.getElem?_set_self (by rw [← HNSS.out]; exact hj)]
            rfl
          · rw [Array.getElem?_setIfInBounds_ne (Ne.symm e), HSJ.out j hj, List.getD_eq_getElem?_getD, List.getD_eq_getElem?_getD, List.getElem?_set_ne (Ne.symm e)])
        HBA.out HGR.out (by rw [← HSt.out, ← HWi.out, ← HPr.out, ← HNOUT.out]; exact HNV.out) HLOC.out (HKz.out.trans ((Keeps.refl _ _).setCell (p := ⟨p, 52, none⟩) (.inr (fun h => h rfl)) _)) (HM11.out.setOpn _)
end Go.Proofs.YtfnekbfcndkjeaaGreatDoor
