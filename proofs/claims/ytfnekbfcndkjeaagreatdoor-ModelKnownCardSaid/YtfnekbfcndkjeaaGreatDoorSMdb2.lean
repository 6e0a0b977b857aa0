/- opens, walked. -/
import Derived.Test.YtfnekbfcndkjeaaGreatDoorSMdb1
import Derived.Test.YtfnekbfcndkjeaaGreatDoorSBld
set_option linter.all false
namespace Go.Proofs.YtfnekbfcndkjeaaGreatDoor
open Go.RowKit
def OpGuard (st : MSt) (d : RecD) : Prop := st.opn.isNone = true ∧ d.round = st.outs.length ∧ d.lot < st.states.length ∧ st.states.getD d.lot.toNat 0 = 0 ∧ st.owner d.lot.toNat ∉ d.barred
instance (st : MSt) (d : RecD) : Decidable (OpGuard st d) := by unfold OpGuard; infer_instance
theorem quiet_of_le {f : FuncId} {args : Array Value} {w : World} {n : Nat} {v : Value} (h : ∀ W, (∃ q, W = w.drewN q) → Calls Tryz.prog f args W fun e w' => e = .returned v ∧ ∃ m, w' = W.drewN m) :
    Calls Tryz.prog f args (w.drewN n) fun e w' => e = .returned v ∧ ∃ m, w' = w.drewN m :=
  (h _ ⟨n, rfl⟩).mono fun e w' ⟨h1, m, h2⟩ => ⟨h1, n + m, by rw [h2, World.drewN_drewN]⟩
section
variable {S : Nat → Prop} {n : Nat} {w : World} {p : Nat} {v : ModV} {st : MSt}
theorem IsI.form {xs : List Int} {u : Value} (h : IsI S w u xs) : ∃ a cap, u = .slice a xs.length cap ∧ (0 < xs.length → ∃ g, a = some ⟨g, 0, none⟩ ∧ u.ownBlock = some g ∧ g < w.heap.size ∧ ∀ j, j < xs.length → w.cell? ⟨g, j, none⟩ = some (.int .i64 (xs.getD j 0))) := by
  obtain ⟨a, cap, e, hc, hx⟩ := ownsRow_form h.1
  refine ⟨a, cap, e, fun h0 => ?_⟩
  obtain ⟨g, ea, _, hg, hj⟩ := hx h0
  refine ⟨g, ea, by rw [e, ea]; rfl, hg, fun j hjl => hj j _ ?_⟩
  rw [List.getElem?_map, List.getElem?_eq_getElem hjl, List.getD_eq_getElem?_getD, List.getElem?_eq_getElem hjl]
  rfl
theorem IsO.form {xs : List OutT} {u : Value} (h : IsO S w u xs) : ∃ a cap, u = .slice a xs.length cap := by
  obtain ⟨a, cap, e, _, _⟩ := ownsRow_form h.1
  exact ⟨a, cap, e⟩
end
theorem drewN_ex {a b : World} {m : Nat} (h : a = b.drewN m) (q : Nat) : ∃ m', a.drewN q = b.drewN m' := ⟨m + q, by rw [h, World.drewN_drewN]⟩
theorem below_drewN {B : Nat} {a w : World} (h : Below B a w) (q : Nat) : Below B a (w.drewN q) := ⟨h.os, h.tape, h.output, h.size, h.block⟩
theorem owner_quiet {S : Nat → Prop} {n : Nat} {w : World} {p : Nat} {v : ModV} {st : MSt} (h : ModIn S n w p v st) (hw : st.Wf) (k : Nat) (hk : k < st.scene.lots.length) (x : Int) (hx : x = st.owner k) (q : Nat) :
    Calls Tryz.prog 74 #[.pointer (some ⟨p, 0, none⟩), .int .i64 k] (w.drewN q) fun e w' => e = .returned (.int .i64 x) ∧ ∃ m, w' = w.drewN m := by
  subst hx
  exact quiet_of_le fun W ⟨q', e⟩ => by subst e; exact owner_any (h.new (new_drewN _ _)) hw k hk
theorem contains_quiet {w : World} {u : Value} {xs : List Int} (h : RowI w u xs) (hn : xs.length ≤ 1000000) (x : Int) (B : Bool) (hB : B = decide (x ∈ xs)) (q : Nat) :
    Calls Tryz.prog 73 #[u, .int .i64 x] (w.drewN q) fun e w' => e = .returned (.bool B) ∧ ∃ m, w' = w.drewN m := by
  subst hB
  exact quiet_of_le fun W ⟨q', e⟩ => by
    subst e
    exact (contains_any xs (by omega) x u _ (RowI.on h (new_drewN _ _))).mono fun e w' ⟨h1, h2⟩ => ⟨h1, 0, h2⟩
theorem IsI.cur {S : Nat → Prop} {w : World} {u : Value} {xs : List Int} (h : IsI S w u xs) (h0 : 0 < xs.length) : ∃ g cap cur, u = .slice (some ⟨g, 0, none⟩) xs.length cap ∧ S g ∧ xs.length ≤ cap ∧ cap ≤ maxLen ∧ w.heap[g]? = some (.cells cur 3 (0, 0)) ∧ cur.size = cap ∧ ∀ j, j < xs.length → cur[j]? = some (.int .i64 (xs.getD j 0)) := by
  obtain ⟨⟨h1, h2⟩, h3⟩ := h
  rcases h2 with ⟨rfl, e⟩ | ⟨g, cap, cur, rfl, _, hh, hnc, hcm, hcs, htk⟩
  · omega
  · refine ⟨g, cap, cur, rfl, h3 g rfl, hnc, hcm, hh, by simpa using hcs, fun j hj => ?_⟩
    have e : (xs.map (Value.int .i64))[j]? = some (.int .i64 (xs.getD j 0)) := by
      rw [List.getElem?_map, List.getElem?_eq_getElem hj, List.getD_eq_getElem?_getD, List.getElem?_eq_getElem hj]
      rfl
    rw [← htk, List.getElem?_take_of_lt (by omega)] at e
    simpa using e
theorem isI_of_cur {S : Nat → Prop} {w : World} {g cap n : Nat} {cur : Array Value} {xs : List Int} (hS : S g) (hn : n = xs.length) (hc : xs.length ≤ cap) (hm : cap ≤ maxLen) (hh : w.heap[g]? = some (.cells cur 3 (0, 0))) (hs : cur.size = cap) (hj : ∀ j, j < xs.length → cur[j]? = some (.int .i64 (xs.getD j 0))) :
    IsI S w (.slice (some ⟨g, 0, none⟩) n cap) xs := by
  subst hn
  refine ⟨⟨by simp, .inr ⟨g, cap, cur, rfl, Nat.zero_le _, hh, hc, hm, by simpa using hs, ?_⟩⟩, fun k hk => by have : g = k := by injection hk
                                                                                                               exact this ▸ hS⟩
  apply List.ext_getElem?
  intro i
  rw [Nat.mul_one]
  by_cases hi : i < xs.length
  · rw [List.getElem?_take_of_lt hi]
    have := hj i hi
    rw [List.getElem?_map, List.getElem?_eq_getElem hi]
    rw [List.getD_eq_getElem?_getD, List.getElem?_eq_getElem hi] at this
    simpa using this
  · rw [List.getElem?_eq_none (by simp; omega), List.getElem?_eq_none (by simp; omega)]
theorem wpList_makeMap {P : Program} {ops : Array Oper} {rest : List Oper} {op : Oper} {a : Act} {w : World} {Q : Exit → Act → World → Prop} (hgd : op.guard = none) (t : TypeId) (ho : op.op = .makeMap t none) (b : Nat) (hb : w.heap.size = b) (w' : World) (hw : w.alloc (.map #[] 0) = w')
    (h : wpList P ops Q rest (a.put op.dst (.map (some b))) w') : wpList P ops Q (op :: rest) a w :=
  wpList_plain hgd fun _ hK => by
    subst hb hw
    unfold Oper.wp execOp
    simp only [ho, Option.map_none, Sem.run_bind, run_makeMap, Result.andThen_ok, Sem.run_pure]
    exact hK _ _ h
def rndCells (r : RecV) (a b : Nat) : Array Value := recCells r ++ #[.map (some a), .map (some b)]
theorem build_rnd (r : RecV) (a b : Nat) (w : World) : (Instr.build 133 #[(0, .agg (recCells r)), (1, .map (some a)), (2, .map (some b))]).run Tryz.prog w = .ok (.agg (rndCells r a b)) w := by kernel_rfl
set_option maxHeartbeats 1000000 in
theorem opens_fin {S : Nat → Prop} {n : Nat} {w wd w1 w2 w5 wa wb : World} {p L g q cap nd ns mb bdm : Nat} {v : ModV} {st : MSt} {rv2 : RecV} {d : RecD} {nv : Value} {cur4 : Array Value} (h : ModIn S n w p v st) (hS : ∀ k, S k → k < w.heap.size)
    (hq : d.lot = q) (hqn : q < ns) (hns : ns = st.states.length) (hnd : nd = d.barred.length) (hr1 : rv2.round = d.round) (hr2 : rv2.lot = d.lot) (hr4 : rv2.tick = d.tick)
    (hNd : Below w.heap.size w wd) (hL : w.heap.size ≤ L) (hLd : L < wd.heap.size) (hB1 : Below wd.heap.size wd w1) (hnv : w1.ownsRow wd.heap.size 3 1 nv nd (d.barred.map (Value.int .i64)))
    (hK2 : Keeps (fun k => k ≠ p ∧ k ≠ L) w1 w2) (hK5 : Keeps (· ≠ g) w2 w5) (hSg : S g) (hgp : g ≠ p) (hve : v.states = .slice (some ⟨g, 0, none⟩) ns cap) (hcn : ns ≤ cap) (hcm : cap ≤ maxLen) (hcs : cur4.size = cap)
    (hcj : ∀ j, j < st.states.length → cur4[j]? = some (.int .i64 ((lapseTo q st.states).getD j 0))) (hg5 : w5.heap[g]? = some (.cells (cur4.setIfInBounds q (.int .i64 1)) 3 (0, 0)))
    (hmb : w5.heap.size = mb) (hwa : w5.alloc (.map #[] 0) = wa) (hbm : wa.heap.size = bdm) (hwb : wa.alloc (.map #[] 0) = wb) (hm : MdIn wb p { v with barred := nv }) :
    MStep S n w p st (some (opensS st d)) (.returned (.bool true)) ((wb.alloc (.cells (rndCells rv2 mb bdm) 133)).setCell ⟨p, 52, none⟩ (.pointer (some ⟨wb.heap.size, 0, none⟩))) := by
  obtain ⟨wR, hwR⟩ : ∃ z, z = wb.alloc (.cells (rndCells rv2 mb bdm) 133) := ⟨_, rfl⟩
  rw [← hwR]
  obtain ⟨wz, hwz⟩ : ∃ z, z = wR.setCell ⟨p, 52, none⟩ (.pointer (some ⟨wb.heap.size, 0, none⟩)) := ⟨_, rfl⟩
  rw [← hwz]
  have hpS := hS p h.own
  have hgS := hS g hSg
  have ha : Below w5.heap.size w5 wa := by rw [← hwa]; exact new_alloc _ _
  have hb : Below wa.heap.size wa wb := by rw [← hwb]; exact new_alloc _ _
  have hR : Below wb.heap.size wb wR := by rw [hwR]; exact new_alloc _ _
  have hz : Keeps (· ≠ p) wR wz := by rw [hwz]; exact (Keeps.refl _ _).setCell (p := ⟨p, 52, none⟩) (.inr (fun h => h rfl)) _
  have sd := hNd.size
  have s1 := hB1.size
  have s2 := hK2.size
  have s5 := hK5.size
  have sa : wa.heap.size = w5.heap.size + 1 := by rw [← hwa]; simp
  have sb : wb.heap.size = wa.heap.size + 1 := by rw [← hwb]; simp
  have sR : wR.heap.size = wb.heap.size + 1 := by rw [hwR]; simp
  have sz := hz.size
  have k5z : Keeps (· ≠ p) w5 wz := (((keeps_of_new ha (· ≠ p)).trans (keeps_of_new hb _)).trans (keeps_of_new hR _)).trans hz
  have k1z : Keeps (fun k => k ≠ p ∧ k ≠ L ∧ k ≠ g) w1 wz := ((hK2.mono (fun k _ hk => ⟨hk.1, hk.2.1⟩)).trans (hK5.mono (fun k _ hk => hk.2.2))).trans (k5z.mono (fun k _ hk => hk.1))
  have k0z : Keeps (fun k => k ≠ p ∧ k ≠ g) w wz := (((keeps_of_new hNd (fun k => k ≠ p ∧ k ≠ L ∧ k ≠ g)).trans (keeps_of_new hB1 _)).trans k1z).mono (fun k hk hh => ⟨hh.1, by omega, hh.2⟩)
  have mz : MdIn wz p { v with barred := nv, opn := .pointer (some ⟨wb.heap.size, 0, none⟩) } := by rw [hwz]; exact (hm.new hR).setOpn _
  have hNV : wz.ownsRow wd.heap.size 3 1 nv nd (d.barred.map (Value.int .i64)) := ownsRow_keeps hnv k1z (fun k hk => by omega)
  have hgz : wz.heap[g]? = some (.cells (cur4.setIfInBounds q (.int .i64 1)) 3 (0, 0)) := whole_keeps hg5 k5z hgp
  have hmade : MapF wa mb 0 (fun _ => none) := by rw [← hwa, ← hmb]; exact MapF.made w5
  have hmade2 : MapF wb bdm 0 (fun _ => none) := by rw [← hwb, ← hbm]; exact MapF.made wa
  have hM1 : MapF wz mb (n + 1) (fun _ => none) := (((hmade.new hb).new hR).keeps hz (by omega)).mono (Nat.zero_le _)
  have hM2 : MapF wz bdm (n + 1) (fun _ => none) := ((hmade2.new hR).keeps hz (by omega)).mono (Nat.zero_le _)
  have hrz : wz.heap[wb.heap.size]? = some (.cells (rndCells rv2 mb bdm) 133 (0, 0)) := whole_keeps (by rw [hwR]; exact heap_new _ _) hz (by omega)
  have hnl : ((lapseTo q st.states).set q 1).length = st.states.length := by rw [List.length_set, lapseTo_length]
  have hg' : ∀ k, v.states.ownBlock = some k → g = k := fun k hk => by rw [hve] at hk; injection hk
  refine ⟨rfl, fun k => S k ∨ (w.heap.size ≤ k ∧ k < wz.heap.size), ⟨_, ⟨mz, .inl h.own, h.scn, ?_, ?_, ?_, ?_, ?_, ?_, ?_, ?_, ?_, h.tick, h.ended, Nat.le_trans h.nout (Nat.le_succ n), h.sok⟩⟩, k0z.mono (fun k _ hk => ⟨fun e => hk (by rw [e]; exact h.own), fun e => hk (by rw [e]; exact hSg)⟩), fun k hk => hk.imp id (fun h => h.1), fun k hk => by rcases hk with hk | hk; exact Nat.lt_of_lt_of_le (hS k hk) k0z.size; exact hk.2⟩
  · exact (h.lots.keep k0z (fun k hk => by obtain ⟨cur, hc⟩ := h.lots.block k hk; exact ⟨h.here.ne hc (by decide), fun e => by
      obtain ⟨cur2, hc2⟩ := h.states.block g (by rw [hve]; rfl)
      rw [e, hc2] at hc; injection hc with hc; injection hc with _ hc _; revert hc; decide⟩)).wide (fun k hk => .inl hk)
  · exact (h.owners.keep k0z (fun k hk => by obtain ⟨cur, hc⟩ := h.owners.block k hk; exact ⟨h.here.ne hc (by decide), fun e => h.ap1 k hk (by rw [hve, e]; rfl)⟩)).wide (fun k hk => .inl hk)
  · show IsI _ wz v.states ((lapseTo d.lot.toNat st.states).set d.lot.toNat 1)
    rw [hq, Int.toNat_natCast, hve]
    refine isI_of_cur (.inl hSg) (by rw [hnl, hns]) (by rw [hnl, ← hns]; exact hcn) hcm hgz (by simpa using hcs) (fun j hj => ?_)
    rw [hnl] at hj
    by_cases e : j = q
    · subst e
      rw [Array.getElem?_setIfInBounds_self_of_lt (by omega), List.getD_eq_getElem?_getD, List.getElem?_set_self (by rw [lapseTo_length]; exact hj)]
      rfl
    · rw [Array.getElem?_setIfInBounds_ne (Ne.symm e), hcj j hj, List.getD_eq_getElem?_getD, List.getD_eq_getElem?_getD, List.getElem?_set_ne (Ne.symm e)]
  · exact (h.outs.keep k0z (fun k hk => by obtain ⟨cur, hc⟩ := h.outs.block k hk; exact ⟨h.here.ne hc (by decide), fun e => by
      obtain ⟨cur2, hc2⟩ := h.states.block g (by rw [hve]; rfl)
      rw [e, hc2] at hc; injection hc with hc; injection hc with _ hc _; revert hc; decide⟩)).wide (fun k hk => .inl hk)
  · exact isI_new (n := nd) (base := wd.heap.size) hnd hNV sd
  · exact h.ap1
  · intro k hk he
    have h1 := World.ownsRow.lt hnv k he
    have h2 := hS k (h.owners.2 k hk)
    omega
  · intro k hk he
    have h1 := World.ownsRow.lt hnv k he
    have h2 := hg' k hk
    omega
  · refine ⟨wb.heap.size, mb, bdm, rfl, .inr ⟨by omega, by omega⟩, .inr ⟨by omega, by omega⟩, .inr ⟨by omega, by omega⟩, by omega, ⟨_, hrz, ?_, ?_, ?_, rfl, rfl⟩, hM1, hM2, fun c l hl => by cases hl⟩
    · show some (Value.int .i64 rv2.round) = _; rw [hr1]
    · show some (Value.int .i64 rv2.lot) = _; rw [hr2]
    · show some (Value.int .i64 rv2.tick) = _; rw [hr4]
set_option maxHeartbeats 4000000 in
set_option maxRecDepth 100000 in
theorem opens_any {S : Nat → Prop} {n : Nat} {w : World} {p : Nat} {v : ModV} {st : MSt} (h : ModIn S n w p v st) (hS : ∀ k, S k → k < w.heap.size) (hn : n < 1000000000) (hwf : st.Wf) (rv : RecV) (d : RecD) (hop : Opr d) (htk : 0 ≤ d.tick ∧ d.tick ≤ 9223372036854775807) (hr : RecOut S w rv d) :
    Calls Tryz.prog 41 #[.pointer (some ⟨p, 0, none⟩), .agg (recCells rv)] w (MStep S n w p st (if OpensP st d then some (opensS st d) else none)) := by
  obtain ⟨R, hR⟩ : ∃ R, R = (if OpensP st d then some (opensS st d) else none) := ⟨_, rfl⟩
  rw [← hR]
  have HR := aside hR
  clear hR
  obtain ⟨bb, l, o, rfl, hb, hl, hw⟩ := hr w (Keeps.refl _ _)
  obtain ⟨L, hL⟩ : ∃ x, x = w.heap.size := ⟨_, rfl⟩
  obtain ⟨w0, hw0⟩ : ∃ z, z = w.alloc (.cells (recCells (d.toV bb l o)) 49) := ⟨_, rfl⟩
  have HN0 : Aside (Below w.heap.size w w0) := by rw [hw0]; exact new_alloc _ _
  have HR0 : Aside (RecIn w0 L (d.toV bb l o)) := by rw [hw0, hL]; exact RecIn.box _ _
  have HLw : Aside (w.heap.size ≤ L) := Nat.le_of_eq hL.symm
  have HH := aside h
  have HH0 := aside (h.new HN0.out)
  have HSS := aside hS
  have HWF := aside hwf
  have HOP := aside hop
  have HRO := aside hr
  have HRB : Aside (RowI w0 bb d.barred) := hb.on HN0.out
  have hlens := hwf.lens
  have hnl := hwf.nlots
  have hlot := hop.lot
  have hnb := hop.nbar
  clear h hS hwf hop hr hb hl hw
  obtain ⟨G, hG⟩ : ∃ G : Bool, G = decide (OpGuard st d) := ⟨_, rfl⟩
  have HG := aside hG
  clear hG
  obtain ⟨oa, oc, hov⟩ := HH0.out.outs.form
  obtain ⟨sa, sc, hsv, hsx⟩ := HH0.out.states.form
  have HSV := aside hsv
  obtain ⟨no, hno⟩ : ∃ x, x = st.outs.length := ⟨_, rfl⟩
  obtain ⟨ns, hns⟩ : ∃ x, x = st.states.length := ⟨_, rfl⟩
  have c51 := HH0.out.here.outs
  have c50 := HH0.out.here.states
  rw [hov, ← hno] at c51
  rw [hsv, ← hns] at c50
  have e1 := HR0.out.round
  have e2 := HR0.out.lot
  have e5 := HR0.out.barred
  obtain ⟨q, hq⟩ : ∃ q : Nat, d.lot = q := Int.eq_ofNat_of_zero_le hlot.1
  have HQ := aside hq
  have e1' : w0.cell? ⟨L, 1, none⟩ = some (.int .i64 d.round) := e1
  have e2' : w0.cell? ⟨L, 2, none⟩ = some (.int .i64 q) := by rw [← hq]; exact e2
  have e5' : w0.cell? ⟨L, 5, none⟩ = some bb := e5
  obtain ⟨rd, hrd⟩ : ∃ x, x = d.round := ⟨_, rfl⟩
  have HRD := aside hrd
  rw [← hrd] at e1'
  have HNO := aside hno
  have HNS := aside hns
  have HSX := aside hsx
  clear e1 e2 e5 hov hsv hq hrd hno hns hsx hlot
  go_enter Tryz.func41, Tryz.ntmps41
  go_upto_region 1 with fail
  rw [← hw0, ← hL]
  clear hw0 hL
  go_cut [54] (fun s54 wx => s54 = .bool (!G) ∧ ∃ q, wx = w0.drewN q)
  case first =>
    --F
    cases ho : st.opn with
    | some op =>
      have HE : Aside (G = false) := by rw [Aside, HG.out]; exact decide_eq_false (fun h => by have := h.1; rw [ho] at this; cases this)
      obtain ⟨r, mb, bd, hv, _⟩ : ∃ r mb bd, v.opn = .pointer (some ⟨r, 0, none⟩) ∧ mb = mb ∧ bd = bd := by
        have := HH0.out.opn
        rw [ho] at this
        obtain ⟨r, mb, bd, hv, _⟩ := this
        exact ⟨r, mb, bd, hv, rfl, rfl⟩
      have c52 := HH0.out.here.opn
      rw [hv] at c52
      clear hv ho
      go_quiet (fail)
      go_wp2_with fail
      go_meet
      case rel => exact ⟨by rw [HE.out]; rfl, _, rfl⟩
    | none =>
      have HON := aside ho
      have hv : v.opn = .pointer none := by
        have := HH0.out.opn
        rw [ho] at this
        exact this
      have c52 := HH0.out.here.opn
      rw [hv] at c52
      clear hv ho
      by_cases h1 : rd = no
      case neg =>
        have HE : Aside (G = false) := by rw [Aside, HG.out]; exact decide_eq_false (fun h => h1 (by rw [HRD.out, HNO.out]; exact h.2.1))
        have hb1 : (rd != (no : Int)) = true := by simpa using h1
        clear h1
        go_quiet (fail)
        go_wp2_with fail
        go_meet
        case rel => exact ⟨by rw [HE.out]; rfl, _, rfl⟩
      case pos =>
      have H1 := aside h1
      have hb1 : (rd != (no : Int)) = false := by simpa using h1
      clear h1
      by_cases h2 : q < ns
      case neg =>
        have HE : Aside (G = false) := by rw [Aside, HG.out]; exact decide_eq_false (fun h => h2 (by have := h.2.2.1; rw [HQ.out] at this; have := HNS.out; omega))
        have hb2 : decide (ns ≤ q) = true := by simp; omega
        clear h2
        go_quiet (fail)
        go_wp2_with fail
        go_meet
        case rel => exact ⟨by rw [HE.out]; rfl, _, rfl⟩
      case pos =>
      have H2 := aside h2
      have hb2 : decide (ns ≤ q) = false := by simp; omega
      obtain ⟨sg, rfl, _, hsg, hj⟩ := HSX.out (by rw [← HNS.out]; omega)
      obtain ⟨s, hs⟩ : ∃ s, s = st.states.getD q 0 := ⟨_, rfl⟩
      have cs : w0.cell? ⟨sg, q, none⟩ = some (.int .i64 s) := by rw [hs]; exact hj q (by rw [← HNS.out]; exact h2)
      have hqi : (q : Int) < ns := by omega
      have HSE := aside hs
      clear hj hs hsg h2
      by_cases h3 : s = 0
      case neg =>
        have HE : Aside (G = false) := by rw [Aside, HG.out]; exact decide_eq_false (fun h => h3 (by have := h.2.2.2.1; rw [HQ.out] at this; rw [HSE.out]; exact this))
        have hb3 : (s != 0) = true := by simpa using h3
        clear h3
        go_quiet (fail)
        go_wp2_with fail
        go_meet
        case rel => exact ⟨by rw [HE.out]; rfl, _, rfl⟩
      case pos =>
      have H3 := aside h3
      have hb3 : (s != 0) = false := by simpa using h3
      obtain ⟨ow, how⟩ : ∃ x, x = st.owner q := ⟨_, rfl⟩
      have HOWE := aside how
      obtain ⟨B, hB⟩ : ∃ B, B = decide (ow ∈ d.barred) := ⟨_, rfl⟩
      have HBE := aside hB
      have HOW : Aside (∀ q', Calls Tryz.prog 74 #[.pointer (some ⟨p, 0, none⟩), .int .i64 q] (w0.drewN q') fun e w' => e = .returned (.int .i64 ow) ∧ ∃ m, w' = (w0.drewN q').drewN m) := fun q' => by
        rw [how]
        exact owner_any (HH0.out.new (new_drewN _ _)) HWF.out q (by rw [← HWF.out.lens, ← HNS.out]; exact H2.out)
      have HCO : Aside (∀ q', Calls Tryz.prog 73 #[bb, .int .i64 ow] (w0.drewN q') fun e w' => e = .returned (.bool B) ∧ ∃ m, w' = (w0.drewN q').drewN m) := fun q' => by
        rw [hB]
        exact (contains_any d.barred (by omega) ow bb _ (RowI.on HRB.out (new_drewN _ _))).mono fun e w' ⟨h1, h2⟩ => ⟨h1, 0, h2⟩
      have HE : Aside (G = !B) := by
        rw [Aside, HG.out, HBE.out, ← decide_not]
        refine decide_eq_decide.2 ⟨fun h => ?_, fun h => ?_⟩
        · have := h.2.2.2.2
          rw [HQ.out] at this
          rw [HOWE.out]; exact this
        · refine ⟨by rw [HON.out]; rfl, by rw [← HRD.out, ← HNO.out]; exact H1.out, by rw [HQ.out, ← HNS.out]; have := H2.out; omega, by rw [HQ.out]; exact HSE.out.symm.trans H3.out, ?_⟩
          rw [HQ.out]
          rw [HOWE.out] at h; exact h
      clear h3 how hB
      go_quiet (first
        | (go_at_call 74; exact quiet_of_le (fun W hW => by obtain ⟨q', rfl⟩ := hW; exact HOW.out q'))
        | (go_at_call 73; exact quiet_of_le (fun W hW => by obtain ⟨q', rfl⟩ := hW; exact HCO.out q')))
      go_wp2_with fail
      go_meet
      case rel => exact ⟨by rw [HE.out, Bool.not_not], _, rfl⟩
    --E
  case rest =>
    obtain ⟨rfl, qq, rfl⟩ := hcut
    obtain ⟨wc, hwc⟩ : ∃ z, z = w0.drewN qq := ⟨_, rfl⟩
    have HNc : Aside (Below w.heap.size w wc) := by rw [hwc]; exact HN0.out.trans ((new_drewN w0 qq).mono HN0.out.size)
    have HRc : Aside (RecIn wc L (d.toV bb l o)) := by rw [hwc]; exact HR0.out.drewN qq
    have HHc : Aside (ModIn S n wc p v st) := HH.out.new HNc.out
    have HBc : Aside (RowI wc bb d.barred) := by rw [hwc]; exact RowI.on HRB.out (new_drewN _ _)
    rw [← hwc]
    clear hwc c50 c51 e1' e2' e5' HN0 HR0 HH0 HRB HSX HSV
    cases hgg : G with
    | false =>
      have HNO' : Aside (¬ OpensP st d) := fun h => by
        have h1 := HG.out
        rw [hgg] at h1
        exact (of_decide_eq_false h1.symm) ⟨h.1, h.2.1, h.2.2.1, h.2.2.2.1, h.2.2.2.2.1⟩
      clear hgg
      go_wp2_with fail
      go_ret
      rw [HR.out, if_neg HNO'.out]
      exact step_none HH.out HSS.out HNc.out
    | true =>
      have hgg2 : OpGuard st d := of_decide_eq_true (by rw [← HG.out]; exact hgg)
      have HGG := aside hgg2
      clear hgg hgg2
      have hqn : q < ns := by
        have := HGG.out.2.2.1
        rw [HQ.out] at this
        rw [HNS.out]; omega
      obtain ⟨sa, sc, hsv, hsx⟩ := HHc.out.states.form
      obtain ⟨sg, rfl, hsb, hsg, hj⟩ := hsx (by rw [← HNS.out]; omega)
      have HSV : Aside (v.states = .slice (some ⟨sg, 0, none⟩) ns sc) := by rw [Aside, hsv, ← HNS.out]
      have HSC : Aside (ns ≤ sc) := by
        obtain ⟨_, _, e, hc, _⟩ := ownsRow_form HHc.out.states.1
        rw [hsv] at e
        injection e with _ _ e
        rw [HNS.out, e]; exact hc
      have hsc := HSC.out
      have HJ : Aside (∀ j, j < ns → wc.cell? ⟨sg, j, none⟩ = some (.int .i64 (st.states.getD j 0))) := by rw [Aside, HNS.out]; exact hj
      have HSG := aside hsg
      have c50 := HHc.out.here.states
      rw [HSV.out] at c50
      have e2 : wc.cell? ⟨L, 2, none⟩ = some (.int .i64 q) := by have := HRc.out.lot; rw [← HQ.out]; exact this
      have hqi : (q : Int) ≤ sc := by omega
      have hqi2 : (q : Int) ≤ ns := by omega
      clear hsv hsx hsb hsg hj
      go_upto_region 3 with fail
      go_quiet (fail)
      go_wp2_with fail
      clear c50 e2
      have hq15 : q ≤ 15 := by have := HOP.out.lot; rw [HQ.out] at this; omega
      go_loopw [63] (fun i wr => ∃ k : Nat, k ≤ q ∧ i = .int .i64 k ∧ Aside (∃ m, wr = wc.drewN m) ∧ Aside (∀ j, j < k → st.states.getD j 0 = 0 → st.owner j ∈ d.barred)) (fun i _ => q - (intOf i).toNat)
      case atStart => exact ⟨0, Nat.zero_le _, rfl, ⟨nq, rfl⟩, fun j hj => absurd hj (by omega)⟩
      case round =>
        obtain ⟨k, hk, rfl, HM, HA⟩ := hrel
        obtain ⟨m, rfl⟩ := HM.out
        obtain ⟨wk, hwk⟩ : ∃ z, z = wc.drewN m := ⟨_, rfl⟩
        have HWK := aside hwk
        have HNk : Aside (Below w.heap.size w wk) := by rw [hwk]; exact below_drewN HNc.out m
        have HRk : Aside (RecIn wk L (d.toV bb l o)) := by rw [hwk]; exact HRc.out.drewN m
        have HHk : Aside (ModIn S n wk p v st) := HH.out.new HNk.out
        have HBk : Aside (RowI wk bb d.barred) := by rw [hwk]; exact RowI.on HBc.out (new_drewN _ _)
        rw [← hwk]
        by_cases hkq : k < q
        · have hki : (k : Int) < q := by omega
          obtain ⟨s, hs⟩ : ∃ s, s = st.states.getD k 0 := ⟨_, rfl⟩
          have cs : wk.cell? ⟨sg, k, none⟩ = some (.int .i64 s) := by rw [hs, hwk]; exact HJ.out k (by omega)
          have e5 : wk.cell? ⟨L, 5, none⟩ = some bb := HRk.out.barred
          have HSE := aside hs
          clear hs hwk
          by_cases h0 : s = 0
          · obtain ⟨ow, how⟩ : ∃ x, x = st.owner k := ⟨_, rfl⟩
            obtain ⟨B, hB⟩ : ∃ B, B = decide (ow ∈ d.barred) := ⟨_, rfl⟩
            have hb0 : (s == 0) = true := by simpa using h0
            have HBE := aside hB
            have HOWE := aside how
            have HS0 := aside h0
            have hkl : k < st.scene.lots.length := by rw [← HWF.out.lens, ← HNS.out]; omega
            have HKL := aside hkl
            clear hB how h0 hkl
            go_upto_region 6 with fail
            go_quiet (first
              | (go_at_call 74; exact owner_quiet HHk.out HWF.out k HKL.out ow HOWE.out _)
              | (go_at_call 73; exact contains_quiet HBk.out (by omega) ow B HBE.out _))
            cases B with
            | true =>
              go_wp2_with fail
              go_roundw
              case rel => exact ⟨k + 1, hkq, by go_num, drewN_ex HWK.out _, fun j hj hj0 => by
                by_cases e : j = k
                · rw [e, ← HOWE.out]; exact of_decide_eq_true HBE.out.symm
                · exact HA.out j (by omega) hj0⟩
              case measure => simp [intOf]; omega
            | false =>
              have HNO' : Aside (¬ OpensP st d) := fun h => by
                have h1 := h.2.2.2.2.2.1 k (by rw [HQ.out]; omega) (by rw [← HSE.out]; exact HS0.out)
                rw [← HOWE.out] at h1
                exact (of_decide_eq_false HBE.out.symm) h1
              go_wp2_with fail
              go_ret
              rw [HR.out, if_neg HNO'.out]
              exact step_none HH.out HSS.out (below_drewN HNk.out _)
          · have HS0 := aside h0
            have hb0 : (s == 0) = false := by simpa using h0
            clear h0
            go_upto_region 6 with fail
            go_quiet (fail)
            go_wp2_with fail
            go_roundw
            case rel => exact ⟨k + 1, hkq, by go_num, drewN_ex HWK.out _, fun j hj hj0 => by
              by_cases e : j = k
              · rw [e, ← HSE.out] at hj0; exact absurd hj0 HS0.out
              · exact HA.out j (by omega) hj0⟩
            case measure => simp [intOf]; omega
        · have hki : ¬ (k : Int) < q := by omega
          obtain rfl : q = k := by omega
          have HALL : Aside (∀ j, j < q → st.states.getD j 0 = 0 → st.owner j ∈ d.barred) := HA.out
          clear hwk HA hki hk
          obtain ⟨ba, bc, hbv, hbx⟩ := HHk.out.barred.form
          obtain ⟨nb, hnbe⟩ : ∃ x, x = st.barred.length := ⟨_, rfl⟩
          have c53 := HHk.out.here.barred
          rw [hbv, ← hnbe] at c53
          have HNB := aside hnbe
          have HBX := aside hbx
          have hnb8 : nb ≤ 8 := by rw [hnbe]; exact HWF.out.nbar
          clear hbv hbx hnbe
          go_wp2_with fail
          clear c53
          go_loopg [85] nb (fun g i wr => ∃ k : Nat, k ≤ nb ∧ i = .int .i64 k ∧ nb - k ≤ g ∧ wk = wr ∧ Aside (∀ j, j < k → st.barred.getD j 0 ∈ d.barred))
          case atStart => exact ⟨0, Nat.zero_le _, rfl, by omega, rfl, fun j hj => absurd hj (by omega)⟩
          case round =>
            obtain ⟨k, hk, rfl, hg, hwr, ha⟩ := hrel
            subst hwr
            have HA := aside ha
            clear ha
            by_cases hkn : k < nb
            · have hki : (k : Int) < nb := by omega
              obtain ⟨bg, rfl, _, _, hj⟩ := HBX.out (by rw [← HNB.out]; omega)
              obtain ⟨c, hc⟩ : ∃ c, c = st.barred.getD k 0 := ⟨_, rfl⟩
              have cc : wk.cell? ⟨bg, k, none⟩ = some (.int .i64 c) := by rw [hc]; exact hj k (by rw [← HNB.out]; exact hkn)
              have e5 : wk.cell? ⟨L, 5, none⟩ = some bb := HRk.out.barred
              obtain ⟨B, hB⟩ : ∃ B, B = decide (c ∈ d.barred) := ⟨_, rfl⟩
              have HC := aside hc
              have HBE := aside hB
              have HCT := aside (contains_any d.barred (by omega) c bb wk HBk.out)
              rw [← hB] at HCT
              clear hc hB hj
              go_wp2_with fail
              refine HCT.out.mono ?_
              rintro e w' ⟨rfl, hw'⟩
              rw [hw']
              clear hw' w'
              cases B with
              | true =>
                go_wp2_with fail
                go_roundg (nb - (k + 1))
                case measure => omega
                case rel => exact ⟨k + 1, hkn, by go_num, Nat.le_refl _, rfl, fun j hj => by
                  by_cases e : j = k
                  · rw [e, ← HC.out]; exact of_decide_eq_true HBE.out.symm
                  · exact HA.out.out j (by omega)⟩
              | false =>
                have HNO' : Aside (¬ OpensP st d) := fun h => (of_decide_eq_false HBE.out.symm) (h.2.2.2.2.2.2.1 c (by rw [HC.out]; exact (getD_mem_int _ _).2 ⟨k, by rw [← HNB.out]; exact hkn, rfl⟩))
                go_wp2_with fail
                go_ret
                rw [HR.out, if_neg HNO'.out]
                exact step_none HH.out HSS.out HNk.out
            · have hki : ¬ (k : Int) < nb := by omega
              obtain rfl : nb = k := by omega
              have HBARS : Aside (∀ c ∈ st.barred, c ∈ d.barred) := fun c hc => by
                obtain ⟨j, hj, rfl⟩ := (getD_mem_int _ _).1 hc
                exact HA.out.out j (by rw [HNB.out]; exact hj)
              clear HA HBX hki hk hg
              obtain ⟨bl, cl, hbe, _, hbx⟩ := HBk.out
              obtain ⟨nd, hnd⟩ : ∃ x, x = d.barred.length := ⟨_, rfl⟩
              have e5 : wk.cell? ⟨L, 5, none⟩ = some (.slice bl nd cl) := by rw [hnd, ← hbe]; exact HRk.out.barred
              have HND := aside hnd
              have HBX := aside hbx
              have HBE := aside hbe
              have hnd8 : nd ≤ 8 := by rw [hnd]; exact hnb
              clear hnd hbx hbe
              obtain ⟨G2, hG2⟩ : ∃ G : Bool, G = decide (0 < d.barred.length → d.barred.getD (d.barred.length - 1) 0 < st.scene.carriers) := ⟨_, rfl⟩
              have HG2 := aside hG2
              clear hG2
              go_upto_region 16 with fail
              go_cut [113] (fun s wx => s = .bool (!G2) ∧ ∃ q, wx = wk.drewN q)
              case first =>
                --F
                by_cases h0 : nd = 0
                · have HE : Aside (G2 = true) := by rw [Aside, HG2.out]; exact decide_eq_true (fun h => by rw [← HND.out] at h; omega)
                  have hb0 : decide (0 < nd) = false := by simp; omega
                  have hb0' : decide (0 < (nd : Int)) = false := by simp; omega
                  clear h0
                  go_quiet (fail)
                  go_wp2_with fail
                  go_meet
                  case rel => exact ⟨by rw [HE.out]; rfl, _, rfl⟩
                · have hb0 : decide (0 < nd) = true := by simp; omega
                  have hb0' : decide (0 < (nd : Int)) = true := by simp; omega
                  obtain ⟨k1, hk1⟩ : ∃ k1 : Nat, nd = k1 + 1 := ⟨nd - 1, by omega⟩
                  obtain ⟨lb, lo, rfl, hlb, hj⟩ := HBX.out (by rw [← HND.out]; omega)
                  obtain ⟨x, hx⟩ : ∃ x, x = d.barred.getD k1 0 := ⟨_, rfl⟩
                  have cx : wk.cell? ⟨lb, lo + k1, none⟩ = some (.int .i64 x) := by rw [hx]; exact hj k1 (by rw [← HND.out]; omega)
                  obtain ⟨ca, hca⟩ : ∃ x, x = st.scene.carriers := ⟨_, rfl⟩
                  have c43 : wk.cell? ⟨p, 43, none⟩ = some (.int .i64 ca) := by have := HHk.out.here.rcarriers; rw [HHk.out.carriers, ← hca] at this; exact this
                  have HE : Aside (G2 = decide (x < ca)) := by
                    rw [Aside, HG2.out, ← HND.out, hk1, Nat.add_sub_cancel, ← hx, ← hca]
                    exact decide_eq_decide.2 ⟨fun h => h (Nat.succ_pos _), fun h _ => h⟩
                  have hw1 : IntKind.i64.wrap ((nd : Int) - 1) = (k1 : Int) := by rw [hk1]; exact (IntWalk.i64_in _ (by omega)).trans (by omega)
                  have hi1 : (k1 : Int) < nd := by omega
                  have hk1' : k1 < nd := by omega
                  clear hj hlb hx hca h0 hk1
                  by_cases hxc : x < ca
                  · have HE2 : Aside (G2 = true) := by rw [Aside, HE.out]; exact decide_eq_true hxc
                    have hb1 : decide (ca ≤ x) = false := by simp; omega
                    clear hxc
                    go_quiet (fail)
                    go_wp2_with fail
                    go_meet
                    case rel => exact ⟨by rw [HE2.out]; rfl, _, rfl⟩
                  · have HE2 : Aside (G2 = false) := by rw [Aside, HE.out]; exact decide_eq_false hxc
                    have hb1 : decide (ca ≤ x) = true := by simp; omega
                    clear hxc
                    go_quiet (fail)
                    go_wp2_with fail
                    go_meet
                    case rel => exact ⟨by rw [HE2.out]; rfl, _, rfl⟩
                --E
              case rest =>
                obtain ⟨rfl, q2, rfl⟩ := hcut
                obtain ⟨wd, hwd⟩ : ∃ z, z = wk.drewN q2 := ⟨_, rfl⟩
                have HNd : Aside (Below w.heap.size w wd) := by rw [hwd]; exact below_drewN HNk.out q2
                have HRd : Aside (RecIn wd L (d.toV bb l o)) := by rw [hwd]; exact HRk.out.drewN q2
                have HHd : Aside (ModIn S n wd p v st) := HH.out.new HNd.out
                have HBd : Aside (RowI wd bb d.barred) := by rw [hwd]; exact RowI.on HBk.out (new_drewN _ _)
                rw [← hwd]
                clear hwd e5 HNk HRk HHk HBk HJ HBX
                cases hgg : G2 with
                | false =>
                  have HNO' : Aside (¬ OpensP st d) := fun h => by
                    have h1 := HG2.out
                    rw [hgg] at h1
                    exact (of_decide_eq_false h1.symm) h.2.2.2.2.2.2.2
                  clear hgg
                  go_wp2_with fail
                  go_ret
                  rw [HR.out, if_neg HNO'.out]
                  exact step_none HH.out HSS.out HNd.out
                | true =>
                  have hgg2 : 0 < d.barred.length → d.barred.getD (d.barred.length - 1) 0 < st.scene.carriers := of_decide_eq_true (by rw [← HG2.out]; exact hgg)
                  have HOK : Aside (OpensP st d) := ⟨HGG.out.1, HGG.out.2.1, HGG.out.2.2.1, HGG.out.2.2.2.1, HGG.out.2.2.2.2, fun i hi => HALL.out i (by rw [HQ.out] at hi; omega), HBARS.out, hgg2⟩
                  have e5 : wd.cell? ⟨L, 5, none⟩ = some (.slice bl nd cl) := by rw [HND.out, ← HBE.out]; exact HRd.out.barred
                  have HSRC : Aside (Src wd (.slice bl nd cl) nd 1 (d.barred.map (Value.int .i64))) := by
                    have := HBd.out.src
                    rw [HBE.out, ← HND.out] at this
                    exact this
                  have hLp : L ≠ p := by have := HSS.out p HH.out.own; have := HLw.out; omega
                  have hpL : p ≠ L := hLp.symm
                  clear hgg hgg2
                  go_wp2_with fail
                  refine (clone_ints wd _ nd _ (by omega) HSRC.out).mono ?_
                  rintro e w1 ⟨nv, rfl, hnv, hb1⟩
                  obtain ⟨na, nc, rfl, _⟩ := ownsRow_form hnv
                  have HNV := aside hnv
                  have HB1 := aside hb1
                  have HMD1 := aside (HHd.out.here.new hb1)
                  have HR1 := aside (HRd.out.new hb1)
                  have c53 := HMD1.out.barred
                  have f53 := HMD1.out.free 53
                  have c5 := HR1.out.barred
                  have f5 := HR1.out.free 5
                  clear hnv hb1 e5
                  go_upto_region 19 with fail
                  obtain ⟨w2, hw2⟩ : ∃ z, z = (w1.setCell ⟨p, 53, none⟩ (.slice na nd nc)).setCell ⟨L, 5, none⟩ (.slice none 0 0) := ⟨_, rfl⟩
                  rw [← hw2]
                  have HMD2 : Aside (MdIn w2 p { v with barred := .slice na nd nc }) := by rw [hw2]; exact (HMD1.out.setBarred _).other hpL _
                  have HR2 : Aside (RecIn w2 L { d.toV bb l o with barred := .slice none 0 0 }) := by rw [hw2]; exact (HR1.out.other hLp _).setBarred _
                  have HK2 : Aside (Keeps (fun k => k ≠ p ∧ k ≠ L) w1 w2) := by rw [hw2]; exact ((Keeps.refl _ _).setCell (p := ⟨p, 53, none⟩) (.inr (fun h => h.1 rfl)) _).setCell (p := ⟨L, 5, none⟩) (.inr (fun h => h.2 rfl)) _
                  clear hw2 c53 f53 c5 f5
                  have HST2 : Aside (IsI S w2 v.states st.states) := (HHd.out.states.keep (keeps_of_new HB1.out (fun k => k ≠ p ∧ k ≠ L)) (fun k hk => by
                    obtain ⟨cur, hc⟩ := HHd.out.states.block k hk
                    exact ⟨HHd.out.here.ne hc (by decide), by have := HSS.out k (HHd.out.states.2 k hk); have := HLw.out; omega⟩)).keep HK2.out (fun k hk => by
                    obtain ⟨cur, hc⟩ := HHd.out.states.block k hk
                    exact ⟨HHd.out.here.ne hc (by decide), by have := HSS.out k (HHd.out.states.2 k hk); have := HLw.out; omega⟩)
                  obtain ⟨g, cap, cur, hve, hSg, hnc, hcm, hgh, hcs, hcj⟩ := HST2.out.cur (by rw [← HNS.out]; omega)
                  have c50 : w2.cell? ⟨p, 50, none⟩ = some (.slice (some ⟨g, 0, none⟩) ns cap) := by rw [HNS.out, ← hve]; exact HMD2.out.states
                  have e2 : w2.cell? ⟨L, 2, none⟩ = some (.int .i64 q) := by rw [← HQ.out]; exact HR2.out.lot
                  have hgp : g ≠ p := HMD2.out.ne hgh (by decide)
                  have hgL : g ≠ L := by have := HSS.out g hSg; have := HLw.out; omega
                  have hpg : p ≠ g := hgp.symm
                  have hLg : L ≠ g := hgL.symm
                  have hqc : (q : Int) ≤ cap := by rw [HNS.out] at hqn; omega
                  have hqn2 : (q : Int) < ns := by omega
                  have HVE := aside hve
                  have HSGG := aside hSg
                  have HNC := aside hnc
                  have HCM := aside hcm
                  have HGH := aside hgh
                  have HCS := aside hcs
                  have HCJ := aside hcj
                  clear hve hSg hnc hcm hgh hcs hcj
                  go_still_tail 7, (by kernel_rfl)
                  change wpList _ _ _ _ _ w2.drew
                  obtain ⟨w3, hw3⟩ : ∃ z, z = w2.drew := ⟨_, rfl⟩
                  rw [← hw3]
                  have HB3 : Aside (Below w2.heap.size w2 w3) := by rw [hw3]; exact new_drew _
                  have HGH3 : Aside (w3.heap[g]? = some (.cells cur 3 (0, 0))) := by rw [hw3]; exact HGH.out
                  clear hw3 c50 e2
                  go_wp2_with fail
                  refine (lapse_any g _ q st.states (by rw [← HNS.out]; omega) (by rw [← HNS.out]; have := HWF.out.nlots; have := HWF.out.lens; rw [← HNS.out] at this; omega) w3 cur HGH3.out HCJ.out).mono ?_
                  rintro e w4 ⟨rfl, hk4, cur4, hg4, hs4, hc4⟩
                  have HK4 : Aside (Keeps (· ≠ g) w2 w4) := (keeps_of_new HB3.out _).trans hk4
                  have HMD4 := aside (HMD2.out.keeps HK4.out hpg)
                  have HR4 := aside (HR2.out.keeps HK4.out hLg)
                  have HG4 := aside hg4
                  have HS4 : Aside (cur4.size = cap) := hs4.trans HCS.out
                  have HC4 := aside hc4
                  have c50 : w4.cell? ⟨p, 50, none⟩ = some (.slice (some ⟨g, 0, none⟩) ns cap) := by rw [HNS.out, ← HVE.out]; exact HMD4.out.states
                  have e2 : w4.cell? ⟨L, 2, none⟩ = some (.int .i64 q) := by rw [← HQ.out]; exact HR4.out.lot
                  have cg : w4.cell? ⟨g, q, none⟩ = some (.int .i64 ((lapseTo q st.states).getD q 0)) := (cell_whole hg4 q).trans (hc4 q (by rw [← HNS.out]; exact hqn))
                  have fg := frozen_whole hg4 q
                  clear hk4 hg4 hs4 hc4
                  go_upto_region 20 with fail
                  go_region
                  go_upto_region 21 with fail
                  obtain ⟨w5, hw5⟩ : ∃ z, z = (w4.setCell ⟨g, q, none⟩ (.int .i64 1)).drew := ⟨_, rfl⟩
                  rw [← hw5]
                  obtain ⟨rv2, hrv2⟩ : ∃ r : RecV, r = { d.toV bb l o with barred := .slice none 0 0 } := ⟨_, rfl⟩
                  have HK5 : Aside (Keeps (· ≠ g) w2 w5) := by rw [hw5]; exact (HK4.out.setCell (p := ⟨g, q, none⟩) (.inr (fun h => h rfl)) _).drew
                  have HMD5 := aside (HMD2.out.keeps HK5.out hpg)
                  have HR5 : Aside (RecIn w5 L rv2) := by rw [hrv2]; exact HR2.out.keeps HK5.out hLg
                  have HG5 : Aside (w5.heap[g]? = some (.cells (cur4.setIfInBounds q (.int .i64 1)) 3 (0, 0))) := by rw [hw5]; exact whole_set HG4.out q _
                  have HRV2 := aside hrv2
                  have hi0 : (Tryz.prog.info? 49).map (·.size) = some (recCells rv2).size := by rw [recCells_size]; kernel_rfl
                  have hmm := @run_makeMap Tryz.prog
                  have c52 := HMD5.out.opn
                  have f52 := HMD5.out.free 52
                  clear hw5 hrv2 c50 e2 cg fg
                  clear hmm
                  obtain ⟨mb, hmb⟩ : ∃ x, w5.heap.size = x := ⟨_, rfl⟩
                  obtain ⟨wa, hwa⟩ : ∃ z, w5.alloc (.map #[] 0) = z := ⟨_, rfl⟩
                  obtain ⟨bdm, hbdm⟩ : ∃ x, wa.heap.size = x := ⟨_, rfl⟩
                  obtain ⟨wb, hwb⟩ : ∃ z, wa.alloc (.map #[] 0) = z := ⟨_, rfl⟩
                  have HMB := aside hmb
                  have HWA := aside hwa
                  have HBM := aside hbdm
                  have HWB := aside hwb
                  have HBab : Aside (Below w5.heap.size w5 wb) := by rw [← hwb, ← hwa]; exact ((Below.refl _ w5).alloc (Nat.le_refl _) _).alloc (by simp) _
                  have HMDb := aside (HMD5.out.new HBab.out)
                  have HMDR := aside (HMDb.out.new (new_alloc wb (.cells (rndCells rv2 mb bdm) 133)))
                  clear hmb hwa hbdm hwb c52 f52
                  have c52 := HMDR.out.opn
                  have f52 := HMDR.out.free 52
                  go_wp2_with (guard_target =~ wpList _ _ _ _ _ _; first
                    | (refine wpList_load_row rfl _ _ rfl L rfl _ (recCells rv2) (0, 0) _ HR5.out Tryz.underlying49 rfl hi0 ?_)
                    | (refine wpList_makeMap rfl _ rfl mb HMB.out wa HWA.out ?_)
                    | (refine wpList_makeMap rfl _ rfl bdm HBM.out wb HWB.out ?_)
                    | (refine wpList_build_by rfl 133 _ rfl [(0, .agg (recCells rv2)), (1, .map (some mb)), (2, .map (some bdm))] rfl (.agg (rndCells rv2 mb bdm)) (build_rnd rv2 mb bdm _) ?_))
                  go_ret
                  rw [HR.out, if_pos HOK.out]
                  exact opens_fin HH.out HSS.out HQ.out hqn HNS.out HND.out (by rw [HRV2.out]; rfl) (by rw [HRV2.out]; rfl) (by rw [HRV2.out]; rfl) HNd.out HLw.out HRd.out.lt HB1.out HNV.out HK2.out HK5.out HSGG.out hgp (by rw [HNS.out]; exact HVE.out) (by rw [HNS.out]; exact HNC.out) HCM.out HS4.out HC4.out HG5.out HMB.out HWA.out HBM.out HWB.out HMDb.out
end Go.Proofs.YtfnekbfcndkjeaaGreatDoor
