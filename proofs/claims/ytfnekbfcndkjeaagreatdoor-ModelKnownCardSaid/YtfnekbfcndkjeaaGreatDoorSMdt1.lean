/- Take, walked. -/
import Derived.Test.YtfnekbfcndkjeaaGreatDoorSMdb5
import Derived.Test.YtfnekbfcndkjeaaGreatDoorSSame1
import Derived.Test.YtfnekbfcndkjeaaGreatDoorSBytZ
set_option linter.all false
namespace Go.Proofs.YtfnekbfcndkjeaaGreatDoor
open Go.RowKit Go.Maps
theorem lapse_zero (a : Option Addr) (cap : Nat) (w : World) : Calls Tryz.prog 75 #[.slice a 0 cap] w fun e w' => e = .returned (.tuple #[]) ∧ ∃ m, w' = w.drewN m := by
  go_enter Tryz.func75, Tryz.ntmps75
  go_wp2_with fail
  go_loopw [6] (fun i wr => i = .int .i64 0 ∧ wr = w) (fun _ _ => 0)
  case atStart => exact ⟨rfl, rfl⟩
  case round =>
    obtain ⟨rfl, rfl⟩ := hrel
    go_wp2_with fail
    go_end0
    exact ⟨rfl, 0, rfl⟩
theorem lapse_states {S : Nat → Prop} {w : World} {u : Value} {xs : List Int} (h : IsI S w u xs) (hx : xs.length ≤ 1000000) :
    Calls Tryz.prog 75 #[u] w fun e w' => e = .returned (.tuple #[]) ∧ Keeps (fun k => u.ownBlock ≠ some k) w w' ∧ IsI S w' u (lapseTo xs.length xs) := by
  rcases Nat.eq_zero_or_pos xs.length with h0 | h0
  · obtain ⟨a, cap, e, _⟩ := h.form
    rw [h0] at e
    have hl : lapseTo xs.length xs = xs := by rw [h0, lapseTo_zero]
    rw [hl, e]
    refine (lapse_zero a cap w).mono ?_
    rintro e2 w2 ⟨rfl, m, rfl⟩
    exact ⟨rfl, keeps_of_new (new_drewN _ _) _, e ▸ h.keeps (keeps_of_new (new_drewN _ _) (fun _ => True)) (fun _ _ => trivial)⟩
  · obtain ⟨g, cap, cur, e, hg, hc, hm, hh, hs, hj⟩ := h.cur h0
    rw [e]
    refine (lapse_any g cap xs.length xs (Nat.le_refl _) hx w cur hh hj).mono ?_
    rintro e2 w2 ⟨rfl, hk, cur2, hg2, hs2, hj2⟩
    have hl := lapseTo_length xs.length xs
    exact ⟨rfl, hk.mono (fun k _ hk e => hk (by rw [e]; rfl)), isI_of_cur hg hl.symm (by rw [hl]; exact hc) hm hg2 (by rw [hs2, hs]) (fun j hj => hj2 j (by rw [hl] at hj; exact hj))⟩
theorem ends_fin {S : Nat → Prop} {n : Nat} {w w2 wz : World} {p : Nat} {v : ModV} {st : MSt} (h : ModIn S n w p v st) (hS : ∀ k, S k → k < w.heap.size) (k2 : Keeps (fun k => v.states.ownBlock ≠ some k) w w2) (hs : IsI S w2 v.states (lapseTo st.states.length st.states))
    (kz : Keeps (· ≠ p) w2 wz) (hm : MdIn wz p { v with opn := .pointer none, ended := true }) : MStep S n w p st (some (endsS st)) (.returned (.bool true)) wz := by
  have k : Keeps (fun k => v.states.ownBlock ≠ some k ∧ k ≠ p) w wz := (k2.mono (fun k _ hk => hk.1)).trans (kz.mono (fun k _ hk => hk.2))
  have hst : ∀ k, (∃ cc T, w.heap[k]? = some (.cells cc T (0, 0)) ∧ T ≠ 3) → v.states.ownBlock ≠ some k := fun k ⟨cc, T, hc, hT⟩ e => by
    obtain ⟨c2, h2⟩ := h.states.block k e
    rw [hc] at h2; injection h2 with h2; injection h2 with _ h2 _; exact hT h2
  refine ⟨rfl, S, ⟨_, ⟨hm, h.own, h.scn, ?_, ?_, ?_, ?_, ?_, h.ap1, h.ap2, h.ap3, rfl, h.tick, rfl, Nat.le_succ_of_le h.nout, h.sok⟩⟩, k.mono (fun j _ hj => ⟨fun e => hj (h.states.2 j e), fun e => hj (by rw [e]; exact h.own)⟩), fun _ h => .inl h, fun j hj => Nat.lt_of_lt_of_le (hS j hj) k.size⟩
  · exact h.lots.keep k (fun j hj => by
      obtain ⟨cc, hc⟩ := h.lots.block j hj
      exact ⟨hst j ⟨cc, _, hc, by decide⟩, h.here.ne hc (by decide)⟩)
  · exact h.owners.keep k (fun j hj => by
      obtain ⟨cc, hc⟩ := h.owners.block j hj
      exact ⟨h.ap1 j hj, h.here.ne hc (by decide)⟩)
  · exact hs.keep kz (fun j hj => by
      obtain ⟨cc, hc⟩ := h.states.block j hj
      exact h.here.ne hc (by decide))
  · exact h.outs.keep k (fun j hj => by
      obtain ⟨cc, hc⟩ := h.outs.block j hj
      exact ⟨hst j ⟨cc, _, hc, by decide⟩, h.here.ne hc (by decide)⟩)
  · exact h.barred.keep k (fun j hj => by
      obtain ⟨cc, hc⟩ := h.barred.block j hj
      exact ⟨fun e => h.ap3 j e hj, h.here.ne hc (by decide)⟩)
theorem due_quiet {S : Nat → Prop} {n : Nat} {w : World} {p : Nat} {v : ModV} {st : MSt} (h : ModIn S n w p v st) (hw : st.Wf) (x : Int) (hx : x = st.due) (q : Nat) :
    Calls Tryz.prog 77 #[.pointer (some ⟨p, 0, none⟩)] (w.drewN q) fun e w' => e = .returned (.int .i64 x) ∧ ∃ m, w' = w.drewN m := by
  subst hx
  exact quiet_of_le fun W ⟨q', e⟩ => by subst e; exact due_any (h.new (new_drewN _ _)) hw
set_option maxHeartbeats 2000000 in
theorem ends_none {S : Nat → Prop} {n : Nat} {w : World} {p : Nat} {v : ModV} {st : MSt} (h : ModIn S n w p v st) (hS : ∀ k, S k → k < w.heap.size) (hwf : st.Wf) (hno : st.opn = none) (rv : RecV) :
    Calls Tryz.prog 45 #[.pointer (some ⟨p, 0, none⟩), .agg (recCells rv)] w (MStep S n w p st (some (endsS st))) := by
  obtain ⟨L, hL⟩ : ∃ x, x = w.heap.size := ⟨_, rfl⟩
  obtain ⟨w0, hw0⟩ : ∃ z, z = w.alloc (.cells (recCells rv) 49) := ⟨_, rfl⟩
  have HN0 : Aside (Below w.heap.size w w0) := by rw [hw0]; exact new_alloc _ _
  have HR0 : Aside (RecIn w0 L rv) := by rw [hw0, hL]; exact RecIn.box _ _
  have HH := aside h
  have HSS := aside hS
  have HWF := aside hwf
  have HNS : Aside (st.states.length ≤ 1000000) := by have := hwf.nlots; have := hwf.lens; rw [Aside]; omega
  have hvo : v.opn = .pointer none := by have := h.opn; rw [hno] at this; exact this
  have c52 : w0.cell? ⟨p, 52, none⟩ = some (.pointer none) := by have := (h.here.new HN0.out).opn; rw [hvo] at this; exact this
  clear h hS hwf hno hvo
  go_enter Tryz.func45, Tryz.ntmps45
  go_upto_region 1 with fail
  rw [← hw0, ← hL]
  clear hw0 hL
  go_quiet (fail)
  generalize hw1 : w0.drewN _ = w1
  have HN1 : Aside (Below w.heap.size w w1) := by rw [← hw1]; exact below_drewN HN0.out _
  clear hw1 c52
  have HL1 := aside (lapse_states (HH.out.new HN1.out).states HNS.out)
  have c50 := (HH.out.here.new HN1.out).states
  go_wp2_with fail
  refine HL1.out.mono ?_
  rintro e w2 ⟨rfl, hk2, hi2⟩
  have HK2 : Aside (Keeps (fun k => v.states.ownBlock ≠ some k) w w2) := (keeps_of_new HN1.out _).trans hk2
  have HI2 := aside hi2
  have HM2 : Aside (MdIn w2 p v) := HH.out.here.keeps HK2.out (fun e => by
    obtain ⟨cc, hc⟩ := HH.out.states.block p e
    exact (HH.out.here.ne hc (by decide)) rfl)
  clear hk2 hi2 c50
  have c52 := HM2.out.opn
  have f52 := HM2.out.free 52
  have c55 := HM2.out.ended
  have f55 := HM2.out.free 55
  go_wp2_with fail
  go_ret
  exact ends_fin HH.out HSS.out HK2.out HI2.out (((Keeps.refl _ _).setCell (p := ⟨p, 52, none⟩) (.inr (fun h => h rfl)) (.pointer none)).setCell (p := ⟨p, 55, none⟩) (.inr (fun h => h rfl)) (.bool true)) ((HM2.out.setOpn (.pointer none)).setEnded true)
set_option maxHeartbeats 2000000 in
theorem ends_some {S : Nat → Prop} {n : Nat} {w : World} {p : Nat} {v : ModV} {st : MSt} (h : ModIn S n w p v st) (hS : ∀ k, S k → k < w.heap.size) (hwf : st.Wf) (op : Opn) (hop : st.opn = some op) (rv : RecV) (d : RecD) (hrt : rv.tick = d.tick) (htk : 0 ≤ d.tick ∧ d.tick ≤ 9223372036854775807) :
    Calls Tryz.prog 45 #[.pointer (some ⟨p, 0, none⟩), .agg (recCells rv)] w (MStep S n w p st (if EndsP st d then some (endsS st) else none)) := by
  obtain ⟨L, hL⟩ : ∃ x, x = w.heap.size := ⟨_, rfl⟩
  obtain ⟨w0, hw0⟩ : ∃ z, z = w.alloc (.cells (recCells rv) 49) := ⟨_, rfl⟩
  have HN0 : Aside (Below w.heap.size w w0) := by rw [hw0]; exact new_alloc _ _
  have HR0 : Aside (RecIn w0 L rv) := by rw [hw0, hL]; exact RecIn.box _ _
  have HH := aside h
  have HSS := aside hS
  have HWF := aside hwf
  have HNS : Aside (st.states.length ≤ 1000000) := by have := hwf.nlots; have := hwf.lens; rw [Aside]; omega
  obtain ⟨G, hG⟩ : ∃ G, G = decide (st.due ≤ d.tick - op.tick) := ⟨_, rfl⟩
  have HE : (if EndsP st d then some (endsS st) else none) = if G = true then none else some (endsS st) := by
    have hi : EndsP st d ↔ d.tick - op.tick < st.due := by unfold EndsP; rw [hop]
    rw [hG]
    by_cases hq : st.due ≤ d.tick - op.tick
    · rw [if_neg (by rw [hi]; omega), if_pos (by simpa using hq)]
    · rw [if_pos (by rw [hi]; omega), if_neg (by simpa using hq)]
  rw [HE]
  clear HE
  obtain ⟨R, hR⟩ : ∃ R, R = (if G = true then none else some (endsS st)) := ⟨_, rfl⟩
  rw [← hR]
  have HRR := aside hR
  clear hR
  obtain ⟨r, mb, bb, hov, _, _, _, _, hrnd, _, _, _⟩ : OpnAt S n w v.opn (some op) := by rw [← hop]; exact h.opn
  obtain ⟨tk, htk2⟩ : ∃ x, x = d.tick := ⟨_, rfl⟩
  obtain ⟨ot, hot⟩ : ∃ x, x = op.tick := ⟨_, rfl⟩
  have hotb := (hwf.opn op hop).2
  rw [← hot] at hotb
  rw [← htk2] at htk
  have c52 : w0.cell? ⟨p, 52, none⟩ = some (.pointer (some ⟨r, 0, none⟩)) := by have := (h.here.new HN0.out).opn; rw [hov] at this; exact this
  have r4 : w0.cell? ⟨r, 4, none⟩ = some (.int .i64 ot) := by rw [hot]; exact (hrnd.keeps (keeps_of_new HN0.out (fun _ => True)) trivial).tick
  have e4 : w0.cell? ⟨L, 4, none⟩ = some (.int .i64 tk) := by rw [htk2, ← hrt]; exact HR0.out.tick
  obtain ⟨du, hdu⟩ : ∃ x, x = st.due := ⟨_, rfl⟩
  have HDU := aside hdu
  rw [← hdu, ← htk2, ← hot] at hG
  have HG := aside hG
  have HHN := aside (h.new HN0.out)
  clear h hS hwf hop hov hrnd hrt htk2 hot hdu hG
  go_enter Tryz.func45, Tryz.ntmps45
  go_upto_region 1 with fail
  rw [← hw0, ← hL]
  clear hw0 hL
  have hgd : decide (du ≤ tk - ot) = G := HG.out.symm
  cases G with
  | true =>
    have HRN : Aside (R = none) := by rw [Aside, HRR.out, if_pos rfl]
    go_quiet ((go_at_call 77; exact due_quiet HHN.out HWF.out du HDU.out _))
    go_wp2_with fail
    go_ret
    rw [HRN.out]
    exact step_none HH.out HSS.out (below_drewN HN0.out _)
  | false =>
  have HRN : Aside (R = some (endsS st)) := by rw [Aside, HRR.out, if_neg (by decide)]
  go_quiet ((go_at_call 77; exact due_quiet HHN.out HWF.out du HDU.out _))
  generalize hw1 : w0.drewN _ = w1
  have HN1 : Aside (Below w.heap.size w w1) := by rw [← hw1]; exact below_drewN HN0.out _
  clear hw1 c52 r4 e4 hgd
  have HL1 := aside (lapse_states (HH.out.new HN1.out).states HNS.out)
  have c50 := (HH.out.here.new HN1.out).states
  go_wp2_with fail
  refine HL1.out.mono ?_
  rintro e w2 ⟨rfl, hk2, hi2⟩
  have HK2 : Aside (Keeps (fun k => v.states.ownBlock ≠ some k) w w2) := (keeps_of_new HN1.out _).trans hk2
  have HI2 := aside hi2
  have HM2 : Aside (MdIn w2 p v) := HH.out.here.keeps HK2.out (fun e => by
    obtain ⟨cc, hc⟩ := HH.out.states.block p e
    exact (HH.out.here.ne hc (by decide)) rfl)
  clear hk2 hi2 c50
  have c52 := HM2.out.opn
  have f52 := HM2.out.free 52
  have c55 := HM2.out.ended
  have f55 := HM2.out.free 55
  go_wp2_with fail
  go_ret
  rw [HRN.out]
  exact ends_fin HH.out HSS.out HK2.out HI2.out (((Keeps.refl _ _).setCell (p := ⟨p, 52, none⟩) (.inr (fun h => h rfl)) (.pointer none)).setCell (p := ⟨p, 55, none⟩) (.inr (fun h => h rfl)) (.bool true)) ((HM2.out.setOpn (.pointer none)).setEnded true)
end Go.Proofs.YtfnekbfcndkjeaaGreatDoor
namespace Go.Proofs.YtfnekbfcndkjeaaGreatDoor
open Go.RowKit Go.Maps
def MTakePost (opf : List Int → RecD → Bool) (S : Nat → Prop) (n : Nat) (w : World) (p : Nat) (st : MSt) (d : RecD) (e : Ending) (w' : World) : Prop :=
  e = .returned (.int .i64 (takeM opf st d).1) ∧ ∃ S' : Nat → Prop, ModAt S' (n + 1) w' p (takeM opf st d).2 ∧ Keeps (fun k => ¬ S k) w w' ∧ (∀ k, S' k → S k ∨ w.heap.size ≤ k) ∧ ∀ k, S' k → k < w'.heap.size
def RevOk (opf : List Int → RecD → Bool) (S : Nat → Prop) (n : Nat) (w : World) (p : Nat) (st : MSt) (rv : RecV) (d : RecD) : Prop :=
  ∀ w3 v, Below w.heap.size w w3 → ModIn S n w3 p v st → (∀ k, S k → k < w3.heap.size) → n < 1000000000 → st.Wf → (∃ b l ow, rv = d.toV b l ow) → RdOk d → Calls Tryz.prog 43 #[.pointer (some ⟨p, 0, none⟩), .agg (recCells rv)] w3 (MStep S n w3 p st (match st.opn with | none => none | some o => if RevealsP opf st o d then some (revealsS st o d) else none))
def HandleM (st : MSt) : Prop := st.scene.kind = 0 ∨ st.scene.scheme ≠ 0
theorem revOk_handle (opf : List Int → RecD → Bool) {S : Nat → Prop} {n : Nat} {w : World} {p : Nat} {st : MSt} {rv : RecV} {d : RecD} (h : HandleM st) : RevOk opf S n w p st rv d := by
  intro w3 v hb hv hS hn hwf hrv hd
  cases ho : st.opn with
  | none => exact reveals_none hv hS ho rv
  | some op =>
    have hs : st.scene.scheme ≠ 0 := by
      rcases h with h | h
      · have := (hwf.fresh h).2.2.1
        rw [ho] at this; cases this
      · exact h
    exact reveals_handle opf hv hS hn hwf op ho rv d hrv hd hs
theorem handle_take {opf : List Int → RecD → Bool} {st : MSt} {d : RecD} (h : HandleM st) (hd : d.kind = 1 → d.scheme ≠ 0) : HandleM (takeM opf st d).2 := by
  refine take_cases (P := fun x => HandleM x.2) (fun _ => h) (fun _ => h) fun st' hm hh hs => ?_
  rcases step_cases hs with ⟨hk, hp, rfl⟩ | ⟨hk, hp, rfl⟩ | ⟨hk, o, hop, hp, rfl⟩ | ⟨hk, o, hop, hp, rfl⟩ | ⟨hk, o, hop, hp, rfl⟩ | ⟨_, hp, rfl⟩
  · exact .inr (hd hk)
  all_goals exact h
theorem MStep.from {S : Nat → Prop} {n : Nat} {w w3 w' : World} {p : Nat} {st : MSt} {r : Option MSt} {e : Ending} (hb : Below w.heap.size w w3) (h : MStep S n w3 p st r e w') : MStep S n w p st r e w' := by
  obtain ⟨h1, S', h2, h3, h4, h5⟩ := h
  exact ⟨h1, S', h2, (keeps_of_new hb _).trans h3, fun k hk => (h4 k hk).imp id (fun h => Nat.le_trans hb.size h), h5⟩
theorem RecOut.box {S : Nat → Prop} {w w' : World} {rv : RecV} {d : RecD} (h : RecOut S w rv d) (hb : Below w.heap.size w w') : RecOut S w' rv d := fun W hW => h W ((keeps_of_new hb _).trans hW)
theorem late_chain {P : Program} {ops : Array Oper} {Q : Exit → Act → World → Prop} {md : Region.Mode} {S : World → Prop} {t : Nat} (C : List Nat) {i : Nat} {oi : Oper} {v : Value} {n : Nat} {listed : Array Bool} {a : Act} {w : World} (hi : ops[i]? = some oi) (hsel : Region.noSelect ops = true) (hf : Region.free md ops listed i = true) (hr : (Region.ready md ops listed).contains i = true)
    (hC : C.all (fun x => !(listed.getD x false) && (i :: C).any (fun y => Region.waitsFor md ops x y)) = true) (ht : C.contains t = true) (hit : i ≠ t)
    (hQ : ∀ c a w, Q (.panic c) (a.put oi.dst v) w → Q (.panic c) a w) (hy : YieldsIf P ops S oi v a) (hS : S w)
    (h : wpLate P md ops Q S t n (listed.setIfInBounds i true) (a.put oi.dst v) w) : wpLate P md ops Q S t (n + 1) listed a w := by
  have ht' : t ∈ C := by simpa using ht
  have hC' : ∀ x ∈ C, listed.getD x false = false ∧ ∃ y ∈ i :: C, Region.waitsFor md ops x y = true := by
    intro x hx
    have := List.all_eq_true.1 hC x hx
    rw [Bool.and_eq_true, List.any_eq_true] at this
    exact ⟨by simpa using this.1, this.2⟩
  refine late_first hi hsel hQ hit S (fun l => ∀ x ∈ C, l.getD x false = false) (fun l u g ho => ?_) (fun l j g hu hj hji x hx => ?_) n listed a w (Region.free_spec hi hf) (fun x hx => (hC' x hx).1) (by simpa using hr) hy (.inr hS) h
  · rcases ho with ho | ho
    · rw [g t ht'] at ho; cases ho
    · exact ho
  · have hjx : j ≠ x := fun hjx => by
      subst hjx
      obtain ⟨y, hy, hw⟩ := (hC' j hx).2
      obtain ⟨oj, hoj, e, he, hb, heq⟩ := Region.waitsFor_spec hw
      obtain ⟨_, o2, ho2, hall⟩ := mem_ready.1 hj
      rw [hoj] at ho2
      cases ho2
      have h1 := hall e he hb
      rw [heq] at h1
      rcases List.mem_cons.1 hy with rfl | hy
      · by_cases hl : y < l.size
        · simp [hl] at hu h1; rw [hu] at h1; cases h1
        · simp [Array.getElem?_eq_none (Nat.le_of_not_lt hl)] at hu
      · have g1 := g y hy
        by_cases hl : y < l.size
        · simp [hl] at g1 h1; rw [g1] at h1; cases h1
        · simp [Array.getElem?_eq_none (Nat.le_of_not_lt hl)] at h1
    show (l.setIfInBounds j true).getD x false = false
    rw [getD_set_ne false hjx]; exact g x hx
theorem begun_quiet {S : Nat → Prop} {n : Nat} {w : World} {p : Nat} {v : ModV} {st : MSt} (h : ModIn S n w p v st) (x : Bool) (hx : x = decide (st.scene.kind ≠ 0)) (q : Nat) :
    Calls Tryz.prog 46 #[.pointer (some ⟨p, 0, none⟩)] (w.drewN q) fun e w' => e = .returned (.bool x) ∧ ∃ m, w' = w.drewN m := by
  subst hx
  exact quiet_of_le fun W ⟨q', e⟩ => by subst e; exact begun_any (h.new (new_drewN _ _))
def comesV (k : Nat) : FuncId := if k = 1 then 40 else if k = 2 then 41 else if k = 3 then 42 else if k = 4 then 43 else if k = 5 then 44 else 45
def takeR (st : MSt) (d : RecD) : Option MSt → Int × MSt | some st' => (0, { st' with tick := d.tick }) | none => (22, st)
theorem takeM_of {opf : List Int → RecD → Bool} {st : MSt} {d : RecD} (hm : mayB d = true) : takeM opf st d = takeR st d (if HereP st d then stepM opf st d else none) := by
  unfold takeM takeR
  rw [if_pos hm]
  by_cases h : HereP st d
  · rw [if_pos h, if_pos h]; rfl
  · rw [if_neg h, if_neg h]
theorem ModIn.storeTick {S : Nat → Prop} {n : Nat} {w : World} {p : Nat} {v : ModV} {st : MSt} (h : ModIn S n w p v st) (x : Int) : ModIn S n (w.setCell ⟨p, 54, none⟩ (.int .i64 x)) p { v with tick := x } { st with tick := x } := by
  have k : Keeps (· ≠ p) w (w.setCell ⟨p, 54, none⟩ (.int .i64 x)) := (Keeps.refl _ _).setCell (p := ⟨p, 54, none⟩) (.inr (fun h => h rfl)) _
  have hI : ∀ {u : Value} {xs : List Int}, IsI S w u xs → ∀ j, u.ownBlock = some j → j ≠ p := fun hu j hj => by
    obtain ⟨cc, hc⟩ := hu.block j hj
    exact h.here.ne hc (by decide)
  exact { h with
    here := h.here.setTick x
    lots := h.lots.keep k (fun j hj => by
      obtain ⟨cc, hc⟩ := h.lots.block j hj
      exact h.here.ne hc (by decide))
    owners := h.owners.keep k (hI h.owners)
    states := h.states.keep k (hI h.states)
    outs := h.outs.keep k (fun j hj => by
      obtain ⟨cc, hc⟩ := h.outs.block j hj
      exact h.here.ne hc (by decide))
    barred := h.barred.keep k (hI h.barred)
    opn := h.opn.keep k (fun j hj => by
      rcases hj with ⟨cs, hc⟩ | ⟨es, ck, hc⟩
      · exact h.here.ne hc (by decide)
      · intro e
        rw [e, h.here] at hc
        injection hc with hc
        injection hc)
    tick := rfl }
def tabC : Array Value := #[Value.nilFunc, Value.func (Fn.func 40) #[] #[], Value.func (Fn.func 41) #[] #[], Value.func (Fn.func 42) #[] #[], Value.func (Fn.func 43) #[] #[], Value.func (Fn.func 44) #[] #[], Value.func (Fn.func 45) #[] #[]]
theorem tabC_get (k : Nat) (h : 1 ≤ k ∧ k ≤ 6) : tabC[k]? = some (.func (.func (comesV k)) #[] #[]) := by
  have h6 : k = 1 ∨ k = 2 ∨ k = 3 ∨ k = 4 ∨ k = 5 ∨ k = 6 := by omega
  rcases h6 with rfl | rfl | rfl | rfl | rfl | rfl <;> rfl
theorem comes_run (k : Nat) (h : 1 ≤ k ∧ k ≤ 6) (args : Array Value) (w : World) : (callFunc (comesV k) args).run Tryz.prog w = .ok (.enter (comesV k) args) w := by
  have h6 : k = 1 ∨ k = 2 ∨ k = 3 ∨ k = 4 ∨ k = 5 ∨ k = 6 := by omega
  rcases h6 with rfl | rfl | rfl | rfl | rfl | rfl
  · change (callFunc 40 args).run Tryz.prog w = .ok (.enter 40 args) w; go_simp; try rfl
  · change (callFunc 41 args).run Tryz.prog w = .ok (.enter 41 args) w; go_simp; try rfl
  · change (callFunc 42 args).run Tryz.prog w = .ok (.enter 42 args) w; go_simp; try rfl
  · change (callFunc 43 args).run Tryz.prog w = .ok (.enter 43 args) w; go_simp; try rfl
  · change (callFunc 44 args).run Tryz.prog w = .ok (.enter 44 args) w; go_simp; try rfl
  · change (callFunc 45 args).run Tryz.prog w = .ok (.enter 45 args) w; go_simp; try rfl
theorem step_calls (opf : List Int → RecD → Bool) {S : Nat → Prop} {n : Nat} {w : World} {p : Nat} {v : ModV} {st : MSt} (h : ModIn S n w p v st) (hwf : st.Wf) (hS : ∀ k, S k → k < w.heap.size) (hn : n < 1000000000) (rv : RecV) (d : RecD) (hr : RecOut S w rv d) (hok : d.ok) (hrev : RevOk opf S n w p st rv d)
    (hm : mayB d = true) (hh : HereP st d) (k : Nat) (hk : d.kind = k) : ∀ W, Below w.heap.size w W → Calls Tryz.prog (comesV k) #[.pointer (some ⟨p, 0, none⟩), .agg (recCells rv)] W (MStep S n W p st (stepM opf st d)) := by
  intro W hb
  have hW := h.new hb
  have hSW : ∀ k, S k → k < W.heap.size := fun k hk => Nat.lt_of_lt_of_le (hS k hk) hb.size
  have hRW := hr.box hb
  have hrv : ∃ b l ow, rv = d.toV b l ow := by obtain ⟨b, l, o, e, _⟩ := hr w (Keeps.refl _ _); exact ⟨b, l, o, e⟩
  have hrt : rv.tick = d.tick := by obtain ⟨b, l, ow, e⟩ := hrv; rw [e]; rfl
  have hkd := may_kind hm
  have hb0 := may_base hm
  have htk : 0 ≤ d.tick ∧ d.tick ≤ 9223372036854775807 := ⟨hb0.1, hok.tick.2⟩
  have h6 : k = 1 ∨ k = 2 ∨ k = 3 ∨ k = 4 ∨ k = 5 ∨ k = 6 := by omega
  unfold stepM
  rw [hk]
  have rd : d.kind = 3 ∨ d.kind = 4 → RdOk d := fun e => ⟨htk, may_carr hm e, hok.len, hok.dig, hok.bid, hok.nonce⟩
  rcases h6 with rfl | rfl | rfl | rfl | rfl | rfl
  · have hk0 : st.scene.kind = 0 := by
      have := hh.2.1
      rw [hk] at this
      by_cases e : st.scene.kind = 0
      · exact e
      · exact absurd (by rw [decide_eq_true e]; rfl) this
    exact begin_any hW hSW hn (hwf.fresh hk0).2.2.1 hwf rv d hok.kind (may_scn hm hk) hRW
  · exact opens_any hW hSW hn hwf rv d (may_opr hm hk) htk hRW
  · cases ho : st.opn with
    | none => exact commits_none hW hSW ho rv
    | some op => exact commits_some hW hSW hn hwf op ho rv d hrv (rd (.inl hk))
  · exact hrev W v hb hW hSW hn hwf hrv (rd (.inr hk))
  · cases ho : st.opn with
    | none => exact closes_none hW hSW ho rv
    | some op => exact closes_some hW hSW hn hwf op ho rv d hrv htk
  · cases ho : st.opn with
    | none =>
      have : EndsP st d := by unfold EndsP; rw [ho]; trivial
      show Calls _ _ _ _ (MStep S n W p st (if EndsP st d then some (endsS st) else none))
      rw [if_pos this]
      exact ends_none hW hSW hwf ho rv
    | some op => exact ends_some hW hSW hwf op ho rv d hrt htk
set_option maxHeartbeats 4000000 in
set_option maxRecDepth 100000 in
theorem mtake_any (opf : List Int → RecD → Bool) {S : Nat → Prop} {n : Nat} {w : World} {p : Nat} {st : MSt} (h : ModAt S n w p st) (hS : ∀ k, S k → k < w.heap.size) (hn : n < 1000000000) (rv : RecV) (d : RecD) (hr : RecOut S w rv d) (hok : d.ok) (hrev : RevOk opf S n w p st rv d) :
    Calls Tryz.prog 17 #[.pointer (some ⟨p, 0, none⟩), .agg (recCells rv)] w (MTakePost opf S n w p st d) := by
  obtain ⟨L, hL⟩ : ∃ x, x = w.heap.size := ⟨_, rfl⟩
  obtain ⟨w0, hw0⟩ : ∃ z, z = w.alloc (.cells (recCells rv) 49) := ⟨_, rfl⟩
  have HN0 : Aside (Below w.heap.size w w0) := by rw [hw0]; exact new_alloc _ _
  have HR0 : Aside (RecIn w0 L rv) := by rw [hw0, hL]; exact RecIn.box _ _
  have HLW : Aside (L = w.heap.size) := hL
  have HH := aside h
  have HSS := aside hS
  have HRO := aside hr
  have HOK := aside hok
  have HREV := aside hrev
  have hi0 : (Tryz.prog.info? 49).map (·.size) = some (recCells rv).size := by rw [recCells_size]; kernel_rfl
  have hi3 : (Tryz.prog.info? 49).map (·.size) = some (recCells rv).toList.length := by rw [Array.length_toList, recCells_size]; kernel_rfl
  clear h hS hr hok hrev
  go_enter Tryz.func17, Tryz.ntmps17
  go_upto_region 3 with fail
  rw [← hw0, ← hL]
  clear hw0 hL
  go_wp2_with (guard_target =~ wpList _ _ _ _ _ _; refine wpList_load_row rfl _ _ rfl L rfl _ (recCells rv) (0, 0) _ HR0.out Tryz.underlying49 rfl hi0 ?_)
  refine (bytes_any rv d HOK.out w0 (HRO.out _ (keeps_of_new HN0.out _))).mono ?_
  rintro e w1 ⟨rfl, hb1⟩
  have HN1 := aside (HN0.out.trans (hb1.mono HN0.out.size))
  have HR1 := aside (HR0.out.new hb1)
  clear hb1 hi0
  by_cases hm : mayB d = true
  case neg =>
    have HT : Aside (takeM opf st d = (15, st)) := by rw [Aside, takeM, if_neg hm]
    rw [show bytesA d = (⟨#[]⟩, 15) by rw [bytesA, if_neg hm]]
    clear hm
    go_wp2_with fail
    go_ret
    unfold MTakePost
    rw [HT.out]
    exact ⟨rfl, S, (HH.out.new HN1.out).wide (fun _ h => h) (Nat.le_succ n), keeps_of_new HN1.out _, fun _ h => .inl h, fun k hk => Nat.lt_of_lt_of_le (HSS.out k hk) HN1.out.size⟩
  case pos =>
  have HM := aside hm
  rw [show bytesA d = (bytesF d, 0) by rw [bytesA, if_pos hm]]
  clear hm
  go_upto_region 7 with fail
  rw [show (w1.alloc (.cells #[Value.nilFunc, Value.func (Fn.func 40) #[] #[], Value.func (Fn.func 41) #[] #[], Value.func (Fn.func 42) #[] #[], Value.func (Fn.func 43) #[] #[], Value.func (Fn.func 44) #[] #[], Value.func (Fn.func 45) #[] #[]] 100)) = w1.alloc (.cells tabC 100) from rfl]
  obtain ⟨T, hT⟩ : ∃ x, x = w1.heap.size := ⟨_, rfl⟩
  obtain ⟨w3, hw3⟩ : ∃ z, z = w1.alloc (.cells tabC 100) := ⟨_, rfl⟩
  have HN31 : Below w1.heap.size w1 w3 := by rw [hw3]; exact new_alloc _ _
  have HT3 : Aside (w3.heap[T]? = some (.cells tabC 100 (0, 0))) := by rw [hw3, hT]; exact heap_new _ _
  have HN3 : Aside (Below w.heap.size w w3) := HN1.out.trans (HN31.mono HN1.out.size)
  have HR3 : Aside (RecIn w3 L rv) := HR1.out.new HN31
  rw [← hw3, ← hT]
  clear hw3 HN31 HN1 HR1 hT
  obtain ⟨⟨v, hv⟩, hwf, hnx⟩ := HH.out
  have HV := aside hv
  have HWF := aside hwf
  have HNX := aside hnx
  have HVN := aside (hv.new HN3.out)
  obtain ⟨R, hR⟩ : ∃ R, R = (if HereP st d then stepM opf st d else none) := ⟨_, rfl⟩
  have HRR := aside hR
  obtain ⟨b0, l0, o0, erv, hq0⟩ := HRO.out w (Keeps.refl _ _)
  have hrk : rv.kind = d.kind := by rw [erv]; rfl
  have hrt : rv.tick = d.tick := by rw [erv]; rfl
  obtain ⟨kd, hkd⟩ : ∃ x : Nat, d.kind = x := Int.eq_ofNat_of_zero_le (by have := may_kind HM.out; omega)
  have hk6 : 1 ≤ kd ∧ kd ≤ 6 := by have := may_kind HM.out; omega
  obtain ⟨td, htd⟩ : ∃ x, x = d.tick := ⟨_, rfl⟩
  obtain ⟨tm, htm⟩ : ∃ x, x = st.tick := ⟨_, rfl⟩
  obtain ⟨en, hen⟩ : ∃ x, x = st.ended := ⟨_, rfl⟩
  have HTD := aside htd
  have HKD := aside hkd
  have e0 : w3.cell? ⟨L, 0, none⟩ = some (.int .i64 kd) := by rw [← hkd, ← hrk]; exact HR3.out.kind
  have e4 : w3.cell? ⟨L, 4, none⟩ = some (.int .i64 td) := by rw [htd, ← hrt]; exact HR3.out.tick
  have HE0 : Aside (∀ W, RecIn W L rv → W.cell? ⟨L, 0, none⟩ = some (.int .i64 kd)) := fun W h => by rw [← hkd, ← hrk]; exact h.kind
  have HE4 : Aside (∀ W, RecIn W L rv → W.cell? ⟨L, 4, none⟩ = some (.int .i64 td)) := fun W h => by rw [htd, ← hrt]; exact h.tick
  have c55 : w3.cell? ⟨p, 55, none⟩ = some (.bool en) := by have := HVN.out.here.ended; rw [hv.ended, ← hen] at this; exact this
  have c54 : w3.cell? ⟨p, 54, none⟩ = some (.int .i64 tm) := by have := HVN.out.here.tick; rw [hv.tick, ← htm] at this; exact this
  have HVT : Aside (v.tick = tm) := by rw [htm]; exact hv.tick
  have HVE : Aside (v.ended = en) := by rw [hen]; exact hv.ended
  have HHP : Aside (HereP st d ↔ en = false ∧ decide (st.scene.kind ≠ 0) ≠ decide ((kd : Int) = 1) ∧ tm ≤ td) := by unfold HereP; rw [hen, htm, htd, hkd]; exact Iff.rfl
  have HCALL : Aside (HereP st d → ∀ W, Below w.heap.size w W → Calls Tryz.prog (comesV kd) #[.pointer (some ⟨p, 0, none⟩), .agg (recCells rv)] W (MStep S n W p st (stepM opf st d))) := fun hh => step_calls opf HV.out HWF.out HSS.out hn rv d HRO.out HOK.out HREV.out HM.out hh kd HKD.out
  have HNONE : Aside (¬ HereP st d → R = none) := fun h => by rw [HRR.out, if_neg h]
  have HSOME : Aside (HereP st d → R = stepM opf st d) := fun h => by rw [HRR.out, if_pos h]
  clear hR hv hwf hnx erv hq0 b0 l0 o0 hrk hrt hkd htd htm hen
  go_cut [48] (fun s wx => s = .bool (!R.isSome) ∧ Aside (MStep S n w p st R (.returned (.bool R.isSome)) wx ∧ RecIn wx L rv))
  case first =>
    --F
    cases hen : en with
    | true =>
      rw [hen] at c55
      have HRN : Aside (R = none) := HNONE.out (fun h => by have := (HHP.out.1 h).1; rw [hen] at this; cases this)
      clear hen
      go_quiet (fail)
      go_wp2_with fail
      go_meet
      case rel => exact ⟨by rw [HRN.out]; rfl, by rw [HRN.out]; exact ⟨step_none HV.out HSS.out (below_drewN HN3.out _), HR3.out.new (new_drewN _ _)⟩⟩
    | false =>
    rw [hen] at c55
    have HENF := aside hen
    clear hen
    obtain ⟨sc, hsc⟩ : ∃ x, x = decide ((kd : Int) = 1) := ⟨_, rfl⟩
    obtain ⟨bg, hbg⟩ : ∃ x, x = decide (st.scene.kind ≠ 0) := ⟨_, rfl⟩
    have HBG := aside hbg
    have HHP2 : Aside (HereP st d ↔ bg ≠ sc ∧ tm ≤ td) := by rw [hsc, hbg]; exact ⟨fun h => (HHP.out.1 h).2, fun h => HHP.out.2 ⟨HENF.out, h⟩⟩
    have hscd : ((kd : Int) == 1) = sc := by rw [hsc]; rfl
    clear hsc hbg
    by_cases hbs : bg = sc
    · have HRN : Aside (R = none) := HNONE.out (fun h => (HHP2.out.1 h).1 hbs)
      have hbb : (bg == sc) = true := by rw [hbs]; simp
      clear hbs
      go_quiet ((go_at_call 46; exact begun_quiet HVN.out bg HBG.out _))
      go_wp2_with fail
      go_meet
      case rel => exact ⟨by rw [HRN.out]; rfl, by rw [HRN.out]; exact ⟨step_none HV.out HSS.out (below_drewN HN3.out _), HR3.out.new (new_drewN _ _)⟩⟩
    have hbb : (bg == sc) = false := by cases bg <;> cases sc <;> simp_all
    have HBS := aside hbs
    clear hbs
    by_cases ht : td < tm
    · have HRN : Aside (R = none) := HNONE.out (fun h => by have := (HHP2.out.1 h).2; omega)
      have htt : decide (td < tm) = true := by simpa using ht
      clear ht
      go_quiet ((go_at_call 46; exact begun_quiet HVN.out bg HBG.out _))
      go_wp2_with fail
      go_meet
      case rel => exact ⟨by rw [HRN.out]; rfl, by rw [HRN.out]; exact ⟨step_none HV.out HSS.out (below_drewN HN3.out _), HR3.out.new (new_drewN _ _)⟩⟩
    have htt : decide (td < tm) = false := by simpa using ht
    have HHERE : Aside (HereP st d) := HHP2.out.2 ⟨HBS.out, by omega⟩
    clear ht
    obtain ⟨cp, hcp⟩ : ∃ c, c = (recCells rv).toList := ⟨_, rfl⟩
    have HCPR : Aside (∀ W, RecIn W L rv → W.rangeAt L 0 cp) := fun W h => by rw [hcp]; exact recRange h
    have HCALL2 : Aside (∀ W, Below w.heap.size w W → Calls Tryz.prog (comesV kd) #[.pointer (some ⟨p, 0, none⟩), .agg cp.toArray] W (MStep S n W p st (stepM opf st d))) := by rw [hcp, Array.toArray_toList]; exact HCALL.out HHERE.out
    rw [← hcp] at hi3
    clear hcp
    have HS0 : Aside ((fun W => MdIn W p v ∧ RecIn W L rv ∧ W.heap[T]? = some (.cells tabC 100 (0, 0))) w3.drew) := ⟨HVN.out.here.new (new_drew _), HR3.out.new (new_drew _), whole_new HT3.out (new_drew _)⟩
    refine late_begin (t := 28) (S := fun W => MdIn W p v ∧ RecIn W L rv ∧ W.heap[T]? = some (.cells tabC 100 (0, 0))) (by kernel_rfl) ?_
    refine late_free (i := 0) (oi := _) (v := .pointer (some ⟨p, 0, none⟩)) rfl (by kernel_rfl) (by kernel_rfl) (by kernel_rfl) (by decide) (fun _ _ _ h => h) (Or.inl ⟨by rfl, ?_⟩) (.inr HS0.out) ?_
    · intro W hSw
      go_simp
    try simp only [Act.put, ps]
    refine late_free (i := 1) (oi := _) (v := .pointer (some ⟨p, 0, none⟩)) rfl (by kernel_rfl) (by kernel_rfl) (by kernel_rfl) (by decide) (fun _ _ _ h => h) (Or.inl ⟨by rfl, ?_⟩) (.inr HS0.out) ?_
    · intro W hSw
      go_simp
    try simp only [Act.put, ps]
    refine late_free (i := 2) (oi := _) (v := .pointer (some ⟨p, 55, none⟩)) rfl (by kernel_rfl) (by kernel_rfl) (by kernel_rfl) (by decide) (fun _ _ _ h => h) (Or.inl ⟨by rfl, ?_⟩) (.inr HS0.out) ?_
    · intro W hSw
      go_simp
    try simp only [Act.put, ps]
    refine late_chain [4, 6, 12, 21, 28] (i := 3) (oi := _) (v := .bool false) rfl (by kernel_rfl) (by kernel_rfl) (by kernel_rfl) (by kernel_rfl) (by kernel_rfl) (by decide) (fun _ _ _ h => h) (Or.inl ⟨by rfl, ?_⟩) HS0.out ?_
    · intro W hSw
      have c := hSw.1.ended
      rw [HVE.out, HENF.out] at c
      go_simp
    try simp only [Act.put, ps]
    refine late_free (i := 4) (oi := _) (v := .bool false) rfl (by kernel_rfl) (by kernel_rfl) (by kernel_rfl) (by decide) (fun _ _ _ h => h) (Or.inl ⟨by rfl, ?_⟩) (.inr HS0.out) ?_
    · intro W hSw
      go_simp
    try simp only [Act.put, ps]
    refine late_free (i := 5) (oi := _) (v := .pointer (some ⟨p, 0, none⟩)) rfl (by kernel_rfl) (by kernel_rfl) (by kernel_rfl) (by decide) (fun _ _ _ h => h) (Or.inl ⟨by rfl, ?_⟩) (.inr HS0.out) ?_
    · intro W hSw
      go_simp
    try simp only [Act.put, ps]
    refine late_free (i := 7) (oi := _) (v := .pointer (some ⟨L, 0, none⟩)) rfl (by kernel_rfl) (by kernel_rfl) (by kernel_rfl) (by decide) (fun _ _ _ h => h) (Or.inl ⟨by rfl, ?_⟩) (.inr HS0.out) ?_
    · intro W hSw
      go_simp
    try simp only [Act.put, ps]
    refine late_chain [9, 10, 11, 12, 21, 28] (i := 8) (oi := _) (v := .int .i64 kd) rfl (by kernel_rfl) (by kernel_rfl) (by kernel_rfl) (by kernel_rfl) (by kernel_rfl) (by decide) (fun _ _ _ h => h) (Or.inl ⟨by rfl, ?_⟩) HS0.out ?_
    · intro W hSw
      have c := HE0.out W hSw.2.1
      go_simp
    try simp only [Act.put, ps]
    refine late_free (i := 9) (oi := _) (v := .bool sc) rfl (by kernel_rfl) (by kernel_rfl) (by kernel_rfl) (by decide) (fun _ _ _ h => h) (Or.inl ⟨by rfl, ?_⟩) (.inr HS0.out) ?_
    · intro W hSw
      go_simp
    try simp only [Act.put, ps]
    refine late_held (j := 6) (o := _) (by kernel_rfl) rfl fun K hK => ?_
    go_simp
    refine (begun_any (HVN.out.new (new_drew w3))).mono ?_
    rintro e w4 ⟨rfl, q4, hw4⟩
    have HN43 : Below w3.heap.size w3 w4 := by rw [hw4]; exact below_drewN (new_drew w3) _
    have HN4 : Aside (Below w.heap.size w w4) := HN3.out.trans (HN43.mono HN3.out.size)
    have HS1 : Aside ((fun W => MdIn W p v ∧ RecIn W L rv ∧ W.heap[T]? = some (.cells tabC 100 (0, 0))) w4) := ⟨HVN.out.here.new HN43, HR3.out.new HN43, whole_new HT3.out HN43⟩
    clear hw4 HN43 HS0
    rw [← HBG.out]
    try go_simp
    refine hK.out _ w4 HS1.out ?_
    clear hK K
    try simp only [Act.put, ps]
    refine late_free (i := 10) (oi := _) (v := .bool false) rfl (by kernel_rfl) (by kernel_rfl) (by kernel_rfl) (by decide) (fun _ _ _ h => h) (Or.inl ⟨by rfl, ?_⟩) (.inr HS1.out) ?_
    · intro W hSw
      go_simp
    try simp only [Act.put, ps]
    refine late_free (i := 11) (oi := _) (v := .bool false) rfl (by kernel_rfl) (by kernel_rfl) (by kernel_rfl) (by decide) (fun _ _ _ h => h) (Or.inl ⟨by rfl, ?_⟩) (.inr HS1.out) ?_
    · intro W hSw
      go_simp
    try simp only [Act.put, ps]
    refine late_free (i := 12) (oi := _) (v := .bool false) rfl (by kernel_rfl) (by kernel_rfl) (by kernel_rfl) (by decide) (fun _ _ _ h => h) (Or.inl ⟨by rfl, ?_⟩) (.inr HS1.out) ?_
    · intro W hSw
      go_simp
    try simp only [Act.put, ps]
    refine late_free (i := 13) (oi := _) (v := .pointer (some ⟨L, 4, none⟩)) rfl (by kernel_rfl) (by kernel_rfl) (by kernel_rfl) (by decide) (fun _ _ _ h => h) (Or.inl ⟨by rfl, ?_⟩) (.inr HS1.out) ?_
    · intro W hSw
      go_simp
    try simp only [Act.put, ps]
    refine late_chain [19, 20, 21, 28] (i := 14) (oi := _) (v := .int .i64 td) rfl (by kernel_rfl) (by kernel_rfl) (by kernel_rfl) (by kernel_rfl) (by kernel_rfl) (by decide) (fun _ _ _ h => h) (Or.inl ⟨by rfl, ?_⟩) HS1.out ?_
    · intro W hSw
      have c := HE4.out W hSw.2.1
      go_simp
    try simp only [Act.put, ps]
    refine late_free (i := 15) (oi := _) (v := .pointer (some ⟨p, 0, none⟩)) rfl (by kernel_rfl) (by kernel_rfl) (by kernel_rfl) (by decide) (fun _ _ _ h => h) (Or.inl ⟨by rfl, ?_⟩) (.inr HS1.out) ?_
    · intro W hSw
      go_simp
    try simp only [Act.put, ps]
    refine late_free (i := 16) (oi := _) (v := .pointer (some ⟨p, 0, none⟩)) rfl (by kernel_rfl) (by kernel_rfl) (by kernel_rfl) (by decide) (fun _ _ _ h => h) (Or.inl ⟨by rfl, ?_⟩) (.inr HS1.out) ?_
    · intro W hSw
      go_simp
    try simp only [Act.put, ps]
    refine late_free (i := 17) (oi := _) (v := .pointer (some ⟨p, 54, none⟩)) rfl (by kernel_rfl) (by kernel_rfl) (by kernel_rfl) (by decide) (fun _ _ _ h => h) (Or.inl ⟨by rfl, ?_⟩) (.inr HS1.out) ?_
    · intro W hSw
      go_simp
    try simp only [Act.put, ps]
    refine late_chain [19, 20, 21, 28] (i := 18) (oi := _) (v := .int .i64 tm) rfl (by kernel_rfl) (by kernel_rfl) (by kernel_rfl) (by kernel_rfl) (by kernel_rfl) (by decide) (fun _ _ _ h => h) (Or.inl ⟨by rfl, ?_⟩) HS1.out ?_
    · intro W hSw
      have c := hSw.1.tick
      rw [HVT.out] at c
      go_simp
    try simp only [Act.put, ps]
    refine late_free (i := 19) (oi := _) (v := .bool false) rfl (by kernel_rfl) (by kernel_rfl) (by kernel_rfl) (by decide) (fun _ _ _ h => h) (Or.inl ⟨by rfl, ?_⟩) (.inr HS1.out) ?_
    · intro W hSw
      go_simp
    try simp only [Act.put, ps]
    refine late_free (i := 20) (oi := _) (v := .bool false) rfl (by kernel_rfl) (by kernel_rfl) (by kernel_rfl) (by decide) (fun _ _ _ h => h) (Or.inl ⟨by rfl, ?_⟩) (.inr HS1.out) ?_
    · intro W hSw
      go_simp
    try simp only [Act.put, ps]
    refine late_free (i := 21) (oi := _) (v := .bool false) rfl (by kernel_rfl) (by kernel_rfl) (by kernel_rfl) (by decide) (fun _ _ _ h => h) (Or.inl ⟨by rfl, ?_⟩) (.inr HS1.out) ?_
    · intro W hSw
      go_simp
    try simp only [Act.put, ps]
    refine late_free (i := 22) (oi := _) (v := .pointer (some ⟨L, 0, none⟩)) rfl (by kernel_rfl) (by kernel_rfl) (by kernel_rfl) (by decide) (fun _ _ _ h => h) (Or.inl ⟨by rfl, ?_⟩) (.inr HS1.out) ?_
    · intro W hSw
      go_simp
    try simp only [Act.put, ps]
    refine late_chain [24, 25, 28] (i := 23) (oi := _) (v := .int .i64 kd) rfl (by kernel_rfl) (by kernel_rfl) (by kernel_rfl) (by kernel_rfl) (by kernel_rfl) (by decide) (fun _ _ _ h => h) (Or.inl ⟨by rfl, ?_⟩) HS1.out ?_
    · intro W hSw
      have c := HE0.out W hSw.2.1
      go_simp
    try simp only [Act.put, ps]
    refine late_free (i := 24) (oi := _) (v := .pointer (some ⟨T, kd, none⟩)) rfl (by kernel_rfl) (by kernel_rfl) (by kernel_rfl) (by decide) (fun _ _ _ h => h) (Or.inl ⟨by rfl, ?_⟩) (.inr HS1.out) ?_
    · intro W hSw
      have hk7 : (kd : Int) < 7 := by omega
      go_simp
    try simp only [Act.put, ps]
    refine late_chain [28] (i := 25) (oi := _) (v := .func (.func (comesV kd)) #[] #[]) rfl (by kernel_rfl) (by kernel_rfl) (by kernel_rfl) (by kernel_rfl) (by kernel_rfl) (by decide) (fun _ _ _ h => h) (Or.inl ⟨by rfl, ?_⟩) HS1.out ?_
    · intro W hSw
      have c := (cell_whole hSw.2.2 kd).trans (tabC_get kd hk6)
      go_simp
    try simp only [Act.put, ps]
    refine late_free (i := 26) (oi := _) (v := .pointer (some ⟨p, 0, none⟩)) rfl (by kernel_rfl) (by kernel_rfl) (by kernel_rfl) (by decide) (fun _ _ _ h => h) (Or.inl ⟨by rfl, ?_⟩) (.inr HS1.out) ?_
    · intro W hSw
      go_simp
    try simp only [Act.put, ps]
    refine late_chain [28] (i := 27) (oi := _) (v := .agg cp.toArray) rfl (by kernel_rfl) (by kernel_rfl) (by kernel_rfl) (by kernel_rfl) (by kernel_rfl) (by decide) (fun _ _ _ h => h) (yieldsIf_load_mid (by rfl) 49 (.tmp 3) rfl L 0 rfl cp _ (fun W hW => HCPR.out W hW.2.1) Tryz.underlying49 rfl hi3) HS1.out ?_
    try simp only [Act.put, ps]
    refine late_one (j := 28) (o := _) (by kernel_rfl) rfl (by kernel_rfl) fun K hK => ?_
    go_simp
    rw [comes_run kd hk6, Oper.upon_enter]
    refine (HCALL2.out w4 HN4.out).mono ?_
    rintro e w5 hms
    have HMS := aside hms
    have HK5 := aside hms.2
    obtain ⟨rfl, -⟩ := hms
    have HRF : Aside (RecIn w5 L rv) := by
      obtain ⟨S5, _, k5, _⟩ := HK5.out
      exact HS1.out.2.1.keeps k5 (fun h => by have := HSS.out L h; have := HLW.out; omega)
    try go_simp
    refine hK.out _ w5 ?_
    clear hK K
    try simp only [Act.put, ps]
    refine late_free (i := 29) (oi := _) (v := .bool !(stepM opf st d).isSome) rfl (by kernel_rfl) (by kernel_rfl) (by kernel_rfl) (by decide) (fun _ _ _ h => h) (Or.inl ⟨by rfl, ?_⟩) (.inl (by kernel_rfl)) ?_
    · intro W hSw
      go_simp
    try simp only [Act.put, ps]
    refine late_free (i := 30) (oi := _) (v := .bool !(stepM opf st d).isSome) rfl (by kernel_rfl) (by kernel_rfl) (by kernel_rfl) (by decide) (fun _ _ _ h => h) (Or.inl ⟨by rfl, ?_⟩) (.inl (by kernel_rfl)) ?_
    · intro W hSw
      go_simp
    try simp only [Act.put, ps]
    refine late_done (by kernel_rfl) ?_ _
    apply_assumption
    go_meet
    case rel =>
      rw [HSOME.out HHERE.out]
      exact ⟨rfl, (HMS.out.from HN4.out), HRF.out⟩
    --E
  case rest =>
  obtain ⟨rfl, HQ⟩ := hcut
  obtain ⟨w5, hw5⟩ : ∃ z, z = wc := ⟨_, rfl⟩
  rw [← hw5] at HQ ⊢
  clear hw5 wc e0 e4 c55 c54 HVN
  have HT : Aside (takeM opf st d = takeR st d R) := by rw [Aside, HRR.out]; exact takeM_of HM.out
  have HWF2 := aside (take_wf (opf := opf) (d := d) HWF.out HOK.out)
  have HNX2 := aside (take_nx (opf := opf) (d := d) HNX.out)
  clear HNONE HSOME HRR
  cases hRR : R with
  | none =>
    rw [hRR] at HT HQ
    clear hRR
    go_wp2_with fail
    go_ret
    obtain ⟨⟨_, S', ⟨v', hv'⟩, hk, h1, h2⟩, _⟩ := HQ.out
    unfold MTakePost
    rw [HT.out] at HWF2 HNX2 ⊢
    exact ⟨rfl, S', ⟨⟨v', hv'⟩, HWF2.out, HNX2.out⟩, hk, h1, h2⟩
  | some st' =>
    rw [hRR] at HT HQ
    clear hRR
    obtain ⟨⟨_, S', ⟨v', hv'⟩, hk, h1, h2⟩, hrc⟩ := HQ.out
    have HV' : Aside (ModIn S' (n + 1) w5 p v' st') := aside hv'
    have HK' := aside hk
    have HA := aside h1
    have HB := aside h2
    have e4 := HE4.out _ hrc
    have c54 := hv'.here.tick
    have f54 := hv'.here.free 54
    clear hv' hk h1 h2 hrc
    go_wp2_with fail
    go_ret
    unfold MTakePost
    rw [HT.out] at HWF2 HNX2 ⊢
    refine ⟨rfl, S', ⟨⟨{ v' with tick := td }, ?_⟩, HWF2.out, HNX2.out⟩, HK'.out.setCell (p := ⟨p, 54, none⟩) (.inr (fun h => h HV.out.own)) _, HA.out, fun k hk => ?_⟩
    · rw [takeR, ← HTD.out]; exact HV'.out.storeTick td
    exact Nat.lt_of_lt_of_le (HB.out k hk) ((Keeps.refl (fun _ => False) w5).setCell (p := ⟨p, 54, none⟩) (.inr (fun h => h)) (.int .i64 td)).size
end Go.Proofs.YtfnekbfcndkjeaaGreatDoor
