/- begin, walked. -/
import Derived.Test.YtfnekbfcndkjeaaGreatDoorSMdw3
import Derived.Carry
set_option linter.all false
namespace Go.Proofs.YtfnekbfcndkjeaaGreatDoor
open Go.RowKit
def MStep (S : Nat → Prop) (n : Nat) (w : World) (p : Nat) (st : MSt) (r : Option MSt) (e : Ending) (w' : World) : Prop :=
  e = .returned (.bool r.isSome) ∧ ∃ S' : Nat → Prop, (∃ v', ModIn S' (n + 1) w' p v' (r.getD st)) ∧ Keeps (fun k => ¬ S k) w w' ∧ (∀ k, S' k → S k ∨ w.heap.size ≤ k) ∧ ∀ k, S' k → k < w'.heap.size
def RecOut (S : Nat → Prop) (w : World) (rv : RecV) (d : RecD) : Prop := ∀ W, Keeps (fun k => ¬ S k) w W → RecAt W rv d
theorem step_none {S : Nat → Prop} {n : Nat} {w w' : World} {p : Nat} {v : ModV} {st : MSt} (h : ModIn S n w p v st) (hS : ∀ k, S k → k < w.heap.size) (hb : Below w.heap.size w w') : MStep S n w p st none (.returned (.bool false)) w' :=
  ⟨rfl, S, ⟨v, (h.new hb).wide (fun _ h => h) (Nat.le_succ n)⟩, keeps_of_new hb _, fun _ h => .inl h, fun k hk => Nat.lt_of_lt_of_le (hS k hk) hb.size⟩
def seenF (xs : List (Int × Int)) : Nat → Int → Option Value
  | 0 => fun _ => none
  | k + 1 => upF (seenF xs k) (xs.getD k (0, 0)).1 (.int .i64 1)
theorem seenF_some (xs : List (Int × Int)) (c : Int) (v : Value) : ∀ k, seenF xs k c = some v → v = .int .i64 1 ∧ ∃ j, j < k ∧ (xs.getD j (0, 0)).1 = c
  | 0, h => by cases h
  | k + 1, h => by
    unfold seenF upF at h
    split at h
    · rename_i e
      exact ⟨(Option.some.inj h).symm, k, Nat.lt_succ_self k, e.symm⟩
    · obtain ⟨h1, j, h2, h3⟩ := seenF_some xs c v k h
      exact ⟨h1, j, by omega, h3⟩
theorem seenF_none (xs : List (Int × Int)) (c : Int) : ∀ k, seenF xs k c = none → ∀ j, j < k → (xs.getD j (0, 0)).1 ≠ c
  | 0, _, j, hj => by omega
  | k + 1, h, j, hj => by
    unfold seenF upF at h
    split at h
    · cases h
    · rename_i e
      by_cases hjk : j = k
      · subst hjk; exact fun h => e h.symm
      · exact seenF_none xs c k h j (by omega)
theorem zeroI (w : World) : (zeroValue 3).run Tryz.prog w = .ok (.int .i64 0) w := by kernel_rfl
def FirstK (d : RecD) (k : Nat) : Prop := ∀ i, i < k → (∀ j, j < i → (d.lots.getD j (0, 0)).1 ≠ (d.lots.getD i (0, 0)).1) ∧ (d.lots.getD i (0, 0)).1 < d.owners.length
theorem step_store_by {ops : Array Oper} {o : Oper} {a : Act} {K : Act → World → Prop} {Q : Exit → Act → World → Prop} {E' : Prop} {w w1 : World} (hgd : o.guard = none) (ty : TypeId) (x y : Operand) (ho : o.op = .store ty x y)
    (q u : Value) (hx : a.eval x = q) (hy : a.eval y = u) (hr : (Instr.storeAt ty q u).run Tryz.prog w = .ok () w1) (h : K (a.put o.dst undef) w1) :
    if Region.wanted o (yielded ops a.tmps) = true then Oper.wp Tryz.prog o a w K Q else E' := by
  have hw : Region.wanted o (yielded ops a.tmps) = true := by simp [Region.wanted, hgd]
  rw [if_pos hw]
  unfold Oper.wp execOp
  simp only [ho, hx, hy, Sem.run_bind, hr, Result.andThen_ok, Sem.run_pure]
  exact h
def setL (cs : Array Value) : Nat → List Value → Array Value
  | _, [] => cs
  | j, x :: xs => setL (cs.setIfInBounds j x) (j + 1) xs
theorem whole_sets {L : Nat} {t : TypeId} {fr : Nat × Nat} : ∀ (xs : List Value) (j : Nat) (w : World) (cs : Array Value), w.heap[L]? = some (.cells cs t fr) → (w.setCells L j xs).heap[L]? = some (.cells (setL cs j xs) t fr)
  | [], _, _, _, h => h
  | x :: xs, j, w, cs, h => whole_sets xs (j + 1) _ _ (whole_set h j x)
theorem keeps_cells (L : Nat) (w : World) : ∀ (xs : List Value) (j : Nat) , Keeps (· ≠ L) w (w.setCells L j xs) := by
  have : ∀ (vs : List Value) (o : Nat) (u : World), Keeps (· ≠ L) w u → Keeps (· ≠ L) w (u.setCells L o vs) := by
    intro vs
    induction vs with
    | nil => intro o u hu; exact hu
    | cons v vs ih => intro o u hu; exact ih _ _ (hu.setCell (p := ⟨L, o, none⟩) (.inr (fun e => e rfl)) v)
  exact fun xs j => this xs j w (Keeps.refl _ _)
theorem recRange {W : World} {L : Nat} {r : RecV} (h : RecIn W L r) : W.rangeAt L 0 (recCells r).toList := by
  intro j v hv
  rw [Nat.zero_add, h.cell j]
  simpa using hv
theorem mod_setRec (v : ModV) (r : RecV) : setL (modCells v) 0 (recCells r).toList = modCells { v with scn := r } := by kernel_rfl
theorem MdIn.setRec {w : World} {p : Nat} {v : ModV} (h : MdIn w p v) (r : RecV) : MdIn (w.setCells p 0 (recCells r).toList) p { v with scn := r } := by
  have := whole_sets (recCells r).toList 0 w _ h
  rw [mod_setRec] at this
  exact this
theorem MdIn.storeRec {w : World} {p : Nat} {v : ModV} (h : MdIn w p v) (r : RecV) (h1 : (recCells r).all (·.oneCell') = true) : (Instr.storeAt 49 (.pointer (some ⟨p, 0, none⟩)) (.agg (recCells r))).run Tryz.prog w = .ok () (w.setCells p 0 (recCells r).toList) :=
  run_storeAt_mid w p 0 49 (recCells r) (fun j hj => ⟨by
    rw [Nat.zero_add]
    have : w.cell? ⟨p, j, none⟩ = (modCells v)[j]? := cell_whole h j
    rw [this, Array.getElem?_eq_getElem (by rw [modCells_size]; rw [recCells_size] at hj; omega)]
    rfl, h.free _⟩) (by rw [recCells_size]; kernel_rfl) h1
theorem ne_type {w : World} {a b : Nat} {cs ds : Array Value} {T U : TypeId} {fr gr : Nat × Nat} (h1 : w.heap[a]? = some (.cells cs T fr)) (h2 : w.heap[b]? = some (.cells ds U gr)) (h : T ≠ U) : a ≠ b := by
  rintro rfl
  rw [h1] at h2
  injection h2 with h2
  injection h2 with _ h2 _
  exact h h2
theorem made0 (n : Nat) : (madeCells (Value.int .i64 0).cells (n * 1)).toList = (List.replicate n (0 : Int)).map (Value.int .i64) := by
  rw [Nat.mul_one, List.map_replicate]
  unfold madeCells
  apply List.ext_getElem
  · simp
  · intro i h1 h2
    simp [Value.cells]
    rw [Nat.mod_one]
    rfl
theorem isI_new {S : Nat → Prop} {w W : World} {v : Value} {n base : Nat} {xs : List Int} (hn : n = xs.length) (h : W.ownsRow base 3 1 v n (xs.map (Value.int .i64))) (hb : w.heap.size ≤ base) : IsI (fun k => S k ∨ (w.heap.size ≤ k ∧ k < W.heap.size)) W v xs := by
  subst hn
  exact ⟨ownsRow_mono h (Nat.zero_le _), fun k hk => by have := World.ownsRow.lt h k hk; exact .inr ⟨by omega, this.2⟩⟩
theorem isL_new {S : Nat → Prop} {w W : World} {v : Value} {n base : Nat} {xs : List (Int × Int)} (hn : n = xs.length) (h : W.ownsRow base 63 2 v n (ltCells xs)) (hb : w.heap.size ≤ base) : IsL (fun k => S k ∨ (w.heap.size ≤ k ∧ k < W.heap.size)) W v xs := by
  subst hn
  exact ⟨ownsRow_mono h (Nat.zero_le _), fun k hk => by have := World.ownsRow.lt h k hk; exact .inr ⟨by omega, this.2⟩⟩
theorem MdIn.ne {w : World} {p k : Nat} {v : ModV} {ds : Array Value} {U : TypeId} {gr : Nat × Nat} (h : MdIn w p v) (h2 : w.heap[k]? = some (.cells ds U gr)) (hne : 93 ≠ U) : k ≠ p := fun e => ne_type h h2 hne e.symm
set_option maxHeartbeats 1000000 in
theorem begin_fin {S : Nat → Prop} {n : Nat} {w wr w3 w5 w6 w7 w8 : World} {p no nl : Nat} {v : ModV} {st : MSt} {rv : RecV} {d : RecD} {b l o ov lv : Value} (h : ModIn S n w p v st) (hS : ∀ k, S k → k < w.heap.size) (hf : st.opn = none) (hw : st.Wf) (hrv : rv = d.toV b l o)
    (hno : no = d.owners.length) (hnl : nl = d.lots.length) (hk : -9223372036854775808 ≤ d.kind ∧ d.kind ≤ 9223372036854775807)
    (hwr : w.heap.size ≤ wr.heap.size) (hb3 : Below w.heap.size w w3) (hov : w3.ownsRow wr.heap.size 3 1 ov no (d.owners.map (Value.int .i64))) (k5 : Keeps (· ≠ p) w3 w5)
    (b56 : Below w5.heap.size w5 w6) (hlv : w6.ownsRow w5.heap.size 63 2 lv nl (ltCells d.lots)) (k7 : Keeps (· ≠ p) w6 w7)
    (h8 : w8.ownsRow 0 3 1 (.slice (some ⟨w7.heap.size, 0, none⟩) nl nl) nl (madeCells (Value.int .i64 0).cells (nl * 1)).toList) (g8 : w7.grownBy w8 none)
    (m8 : MdIn w8 p { v with scn := { rv with lots := lv, owners := .slice none 0 0 }, owners := ov }) :
    MStep S n w p st (some (beginS st d)) (.returned (.bool true)) (w8.setCell ⟨p, 50, none⟩ (.slice (some ⟨w7.heap.size, 0, none⟩) nl nl)) := by
  obtain ⟨w9, hw9⟩ : ∃ z, z = w8.setCell ⟨p, 50, none⟩ (.slice (some ⟨w7.heap.size, 0, none⟩) nl nl) := ⟨_, rfl⟩
  rw [← hw9]
  have hpS := hS p h.own
  have k9 : Keeps (· ≠ p) w8 w9 := by rw [hw9]; exact (Keeps.refl _ _).setCell (p := ⟨p, 50, none⟩) (.inr (fun h => h rfl)) _
  have k79 : Keeps (· ≠ p) w7 w9 := (keeps_grown g8 (· ≠ p) (fun j hj => by cases hj)).trans k9
  have k69 : Keeps (· ≠ p) w6 w9 := k7.trans k79
  have k39 : Keeps (· ≠ p) w3 w9 := (k5.trans (keeps_of_new b56 _)).trans k69
  have k09 : Keeps (· ≠ p) w w9 := (keeps_of_new hb3 _).trans k39
  have m9 : MdIn w9 p { v with scn := { rv with lots := lv, owners := .slice none 0 0 }, owners := ov, states := .slice (some ⟨w7.heap.size, 0, none⟩) nl nl } := by rw [hw9]; exact m8.setStates _
  have s3 := hb3.size
  have s5 := k5.size
  have s6 := b56.size
  have s7 := k7.size
  have s8 := g8.size
  have s9 := k9.size
  have hOV : w9.ownsRow wr.heap.size 3 1 ov no (d.owners.map (Value.int .i64)) := ownsRow_keeps hov k39 (fun k hk => by omega)
  have hLV : w9.ownsRow w5.heap.size 63 2 lv nl (ltCells d.lots) := ownsRow_keeps hlv k69 (fun k hk => by omega)
  have hSV : w9.ownsRow w7.heap.size 3 1 (.slice (some ⟨w7.heap.size, 0, none⟩) nl nl) nl ((List.replicate nl (0 : Int)).map (Value.int .i64)) := by
    rw [← made0]
    have h9 : w8.ownsRow w7.heap.size 3 1 (.slice (some ⟨w7.heap.size, 0, none⟩) nl nl) nl (madeCells (Value.int .i64 0).cells (nl * 1)).toList := by
      obtain ⟨e1, e2⟩ := h8
      refine ⟨e1, e2.imp_right ?_⟩
      rintro ⟨g, cap, cur, e, _, r⟩
      exact ⟨g, cap, cur, e, by injection e with e _ _; injection e with e; injection e with e; omega, r⟩
    exact ownsRow_keeps h9 k9 (fun k hk => by omega)
  refine ⟨rfl, fun k => S k ∨ (w.heap.size ≤ k ∧ k < w9.heap.size), ⟨_, ⟨m9, .inl h.own, ⟨b, .slice none 0 0, by subst hrv; rfl⟩, isL_new hnl hLV (by omega), isI_new hno hOV hwr, (isI_new (n := nl) (base := w7.heap.size) (xs := List.replicate d.lots.length (0 : Int)) (by simp [hnl]) (by rw [← hnl]; exact hSV) (by omega)), ?_, ?_, ?_, ?_, ?_, ?_, ?_, ?_, ?_, hk⟩⟩, k09.mono (fun k _ hk e => hk (by rw [e]; exact h.own)), fun k hk => hk.imp id (fun h => h.1), fun k hk => by rcases hk with hk | hk; exact Nat.lt_of_lt_of_le (hS k hk) k09.size; exact hk.2⟩
  · exact (h.outs.keep k09 (fun k hk => by obtain ⟨cur, hc⟩ := h.outs.block k hk; exact h.here.ne hc (by decide))).wide (fun k hk => .inl hk)
  · exact (h.barred.keep k09 (fun k hk => by obtain ⟨cur, hc⟩ := h.barred.block k hk; exact h.here.ne hc (by decide))).wide (fun k hk => .inl hk)
  · intro k hk he
    have h1 := World.ownsRow.lt hov k hk
    have : w7.heap.size = k := by injection he
    omega
  · intro k hk he
    have h1 := World.ownsRow.lt hov k hk
    have h2 := hS k (h.barred.2 k he)
    omega
  · intro k hk he
    have : w7.heap.size = k := by injection hk
    have h2 := hS k (h.barred.2 k he)
    omega
  · show OpnAt _ _ _ v.opn st.opn
    have := h.opn
    rw [hf] at this ⊢
    exact this
  · exact h.tick
  · exact h.ended
  · exact Nat.le_trans h.nout (Nat.le_succ n)
set_option maxHeartbeats 4000000 in
set_option maxRecDepth 100000 in
theorem begin_any {S : Nat → Prop} {n : Nat} {w : World} {p : Nat} {v : ModV} {st : MSt} (h : ModIn S n w p v st) (hS : ∀ k, S k → k < w.heap.size) (hn : n < 1000000000) (hf : st.opn = none) (hwf : st.Wf) (rv : RecV) (d : RecD) (hdk : -9223372036854775808 ≤ d.kind ∧ d.kind ≤ 9223372036854775807) (hsc : Scn d) (hr : RecOut S w rv d) :
    Calls Tryz.prog 40 #[.pointer (some ⟨p, 0, none⟩), .agg (recCells rv)] w (MStep S n w p st (if BeginP d then some (beginS st d) else none)) := by
  obtain ⟨R, hR⟩ : ∃ R, R = (if BeginP d then some (beginS st d) else none) := ⟨_, rfl⟩
  rw [← hR]
  have HR := aside hR
  clear hR
  have hrw := hr w (Keeps.refl _ _)
  obtain ⟨b, l, o, rfl, hb, hl, hw⟩ := hrw
  obtain ⟨L, hL⟩ : ∃ x, x = w.heap.size := ⟨_, rfl⟩
  obtain ⟨w0, hw0⟩ : ∃ z, z = w.alloc (.cells (recCells (d.toV b l o)) 49) := ⟨_, rfl⟩
  obtain ⟨w1, hw1⟩ : ∃ z, z = w0.alloc (.map #[] 0) := ⟨_, rfl⟩
  obtain ⟨M, hM⟩ : ∃ x, x = w0.heap.size := ⟨_, rfl⟩
  have HN0 : Aside (Below w.heap.size w w0) := by rw [hw0]; exact new_alloc _ _
  have HR0 : Aside (RecIn w0 L (d.toV b l o)) := by rw [hw0, hL]; exact RecIn.box _ _
  have HN1 : Aside (Below w.heap.size w w1) := by rw [hw1]; exact HN0.out.alloc HN0.out.size _
  have HR1 : Aside (RecIn w1 L (d.toV b l o)) := by rw [hw1]; exact HR0.out.new (new_alloc _ _)
  have HM1 : Aside (MapF w1 M 0 (seenF d.lots 0)) := by rw [hw1, hM]; exact MapF.made w0
  have HLw : Aside (w.heap.size ≤ L) := Nat.le_of_eq hL.symm
  have HMw : Aside (w.heap.size ≤ M ∧ L < M) := by
    have h1 := HN0.out.size
    have h2 := HR0.out.lt
    exact ⟨by rw [hM]; exact h1, by rw [hM]; exact h2⟩
  have HRB : Aside (RowI w b d.barred) := hb
  have HRL : Aside (RowL w l d.lots) := hl
  have HRW : Aside (RowI w o d.owners) := hw
  have HH := aside h
  have HSS := aside hS
  have HF := aside hf
  have HSC := aside hsc
  have HRO := aside hr
  have HWF := aside hwf
  have HDK := aside hdk
  obtain ⟨al, cl, rfl, hcl, hxl⟩ := hl
  obtain ⟨ao, co, rfl, hco, hxo⟩ := hw
  have HXL := aside hxl
  have HXO := aside hxo
  have hnl := hsc.nlots
  have hno := hsc.nown
  have hmm := @run_makeMap Tryz.prog
  clear h hS hf hsc hr hb hxl hxo hcl hco hwf hdk
  obtain ⟨nl, hnl2⟩ : ∃ x, x = d.lots.length := ⟨_, rfl⟩
  obtain ⟨no, hno2⟩ : ∃ x, x = d.owners.length := ⟨_, rfl⟩
  have HNL := aside hnl2
  have HNO := aside hno2
  rw [← hnl2] at hnl
  rw [← hno2] at hno
  have c47 : w1.cell? ⟨L, 47, none⟩ = some (.slice al nl cl) := by rw [hnl2]; exact HR1.out.lots
  clear hnl2 hno2
  go_enter Tryz.func40, Tryz.ntmps40
  go_upto_region 1 with fail
  rw [← hw0, ← hL]
  have HW1 := aside hw1
  have HMM := aside hM
  clear hw0 hw1 hL hM
  go_upto_region 2 with fail
  rw [← HW1.out, ← HMM.out]
  clear hmm HW1 HMM
  go_wp2_with fail
  clear c47
  go_loopg [14] nl (fun g v14 wr => ∃ k : Nat, k ≤ nl ∧ v14 = .int .i64 k ∧ nl - k ≤ g ∧ Aside (MapF wr M k (seenF d.lots k)) ∧ Aside (Below w.heap.size w wr ∧ RecIn wr L (d.toV b (.slice al d.lots.length cl) (.slice ao d.owners.length co))) ∧ Aside (FirstK d k))
  case atStart => exact ⟨0, by omega, rfl, by omega, HM1, ⟨HN1.out, HR1.out⟩, fun i hi => absurd hi (by omega)⟩
  case round =>
    clear HN1 HR1 HM1 HN0 HR0
    obtain ⟨k, hk, rfl, hg, HM, HBR, HFK⟩ := hrel
    by_cases hkn : k < nl
    · have hki : (k : Int) < nl := by omega
      obtain ⟨lb, lo, rfl, hlb, hj⟩ := HXL.out (by rw [← HNL.out]; omega)
      obtain ⟨q, hq⟩ : ∃ q, q = (d.lots.getD k (0, 0)).1 := ⟨_, rfl⟩
      obtain ⟨rs, hrs⟩ : ∃ q, q = (d.lots.getD k (0, 0)).2 := ⟨_, rfl⟩
      have hjk := hj k (by rw [← HNL.out]; exact hkn)
      have c1 : wr.cell? ⟨lb, lo + k * 2, none⟩ = some (.int .i64 q) := by rw [hq]; exact (HBR.out.1.cell hlb).trans hjk.1
      have c2 : wr.cell? ⟨lb, lo + k * 2 + 1, none⟩ = some (.int .i64 rs) := by rw [hrs]; exact (HBR.out.1.cell hlb).trans hjk.2
      have HQ := aside hq
      have HRS := aside hrs
      have HQI : Aside (I64 q) := by
        have := (HSC.out.lots k (by rw [← HNL.out]; exact hkn)).1
        rw [Aside, hq]; unfold I64; omega
      clear hj hjk hq hrs hlb
      go_upto_region 5 with fail
      obtain ⟨X, hX⟩ : ∃ x, x = wr.heap.size := ⟨_, rfl⟩
      obtain ⟨wx, hwx⟩ : ∃ z, z = wr.alloc (.cells #[.int .i64 q, .int .i64 rs] 63) := ⟨_, rfl⟩
      rw [← hwx, ← hX]
      have HBX : Aside (Below wr.heap.size wr wx) := by rw [hwx]; exact new_alloc _ _
      have hcx : wx.heap[X]? = some (.cells #[.int .i64 q, .int .i64 rs] 63 (0, 0)) := by rw [hwx, hX]; exact heap_new _ _
      have HCX := aside hcx
      have cx : wx.cell? ⟨X, 0, none⟩ = some (.int .i64 q) := cell_whole hcx 0
      have HMX := aside (HM.out.new HBX.out)
      have HXM : Aside (M < X ∧ L < X) := by rw [hX]; exact ⟨HM.out.lt, HBR.out.2.lt⟩
      clear hwx hX hcx c1 c2
      cases hfq : seenF d.lots k q with
      | some y =>
        obtain ⟨rfl, j, hjk, hjq⟩ := seenF_some _ _ _ _ hfq
        have HNB : Aside (¬ BeginP d) := fun hb => (hb.1 k (by rw [← HNL.out]; exact hkn)).1 j hjk (by rw [← HQ.out]; exact hjq)
        have HFQ := aside hfq
        clear hfq hjk hjq
        go_upto_region 6 with (first
          | (at_lookup; refine wpList_look _ rfl _ _ 127 3 rfl Tryz.underlying127 (zeroI _) M _ _ rfl HMX.out q rfl HQI.out (.int .i64 1) (by rw [HFQ.out]; rfl) ?_)
          | (at_mapUpdate; refine wpList_mapF_put _ rfl _ _ _ 127 3 rfl Tryz.underlying127 M k _ rfl HMX.out (by unfold maxLen; omega) q (.int .i64 2) rfl rfl HQI.out ?_; intro w2 hm2 hg2)
          | fail)
        have HM2 := aside hm2
        have HB2 : Aside (Below w.heap.size w w2) := (HBR.out.1.trans (HBX.out.mono HBR.out.1.size)).grown hg2 (Nat.le_trans HBR.out.1.size HBX.out.size) (fun j hj => by obtain rfl := Option.some.inj hj; exact HMw.out.1)
        have HK2 := aside (keeps_grown hg2 (· ≠ M) (fun j hj => by obtain rfl := Option.some.inj hj; simp))
        have cx2 : w2.cell? ⟨X, 0, none⟩ = some (.int .i64 q) := cell_whole (whole_keeps HCX.out HK2.out (by have := HXM.out; omega)) 0
        have HR2 : Aside (RecIn w2 L (d.toV b (.slice (some ⟨lb, lo, none⟩) d.lots.length cl) (.slice ao d.owners.length co))) := (HBR.out.2.new HBX.out).keeps HK2.out (by have := HMw.out; omega)
        clear hm2 hg2 cx
        go_wp2_with (first
          | (at_lookup; refine wpList_look _ rfl _ _ 127 3 rfl Tryz.underlying127 (zeroI _) M _ _ rfl HM2.out q rfl HQI.out (.int .i64 2) (by simp [upF]) ?_)
          | fail)
        go_ret
        rw [HR.out, if_neg HNB.out]
        exact step_none HH.out HSS.out HB2.out
      | none =>
        have HFQ := aside hfq
        clear hfq
        go_upto_region 6 with (first
          | (at_lookup; refine wpList_look _ rfl _ _ 127 3 rfl Tryz.underlying127 (zeroI _) M _ _ rfl HMX.out q rfl HQI.out (.int .i64 0) (by rw [HFQ.out]; rfl) ?_)
          | (at_mapUpdate; refine wpList_mapF_put _ rfl _ _ _ 127 3 rfl Tryz.underlying127 M k _ rfl HMX.out (by unfold maxLen; omega) q (.int .i64 1) rfl rfl HQI.out ?_; intro w2 hm2 hg2)
          | fail)
        have HM2 := aside hm2
        have HB2 : Aside (Below w.heap.size w w2) := (HBR.out.1.trans (HBX.out.mono HBR.out.1.size)).grown hg2 (Nat.le_trans HBR.out.1.size HBX.out.size) (fun j hj => by obtain rfl := Option.some.inj hj; exact HMw.out.1)
        have HK2 := aside (keeps_grown hg2 (· ≠ M) (fun j hj => by obtain rfl := Option.some.inj hj; simp))
        have cx2 : w2.cell? ⟨X, 0, none⟩ = some (.int .i64 q) := cell_whole (whole_keeps HCX.out HK2.out (by have := HXM.out; omega)) 0
        have HR2 : Aside (RecIn w2 L (d.toV b (.slice (some ⟨lb, lo, none⟩) d.lots.length cl) (.slice ao d.owners.length co))) := (HBR.out.2.new HBX.out).keeps HK2.out (by have := HMw.out; omega)
        clear hm2 hg2 cx
        have c48 : w2.cell? ⟨L, 48, none⟩ = some (.slice ao no co) := by rw [HNO.out]; exact HR2.out.owners
        by_cases hqo : q < no
        · go_wp2_with (first
            | (at_lookup; refine wpList_look _ rfl _ _ 127 3 rfl Tryz.underlying127 (zeroI _) M _ _ rfl HM2.out q rfl HQI.out (.int .i64 1) (by simp [upF]) ?_)
            | fail)
          go_roundg (nl - (k + 1))
          case measure => omega
          case rel => exact ⟨k + 1, hkn, by go_num, Nat.le_refl _, by show MapF w2 M (k + 1) (upF (seenF d.lots k) _ _); rw [← HQ.out]; exact HM2.out, ⟨HB2.out, HR2.out⟩, fun i hi => by
            by_cases e : i = k
            · subst e
              refine ⟨fun j hj => ?_, by rw [← HQ.out, ← HNO.out]; exact hqo⟩
              rw [← HQ.out]
              exact seenF_none _ _ _ HFQ.out j hj
            · exact HFK.out i (by omega)⟩
        · have HNB : Aside (¬ BeginP d) := fun hb => hqo (by have := (hb.1 k (by rw [← HNL.out]; exact hkn)).2; rw [← HQ.out, ← HNO.out] at this; exact this)
          go_wp2_with (first
            | (at_lookup; refine wpList_look _ rfl _ _ 127 3 rfl Tryz.underlying127 (zeroI _) M _ _ rfl HM2.out q rfl HQI.out (.int .i64 1) (by simp [upF]) ?_)
            | fail)
          go_ret
          rw [HR.out, if_neg HNB.out]
          exact step_none HH.out HSS.out HB2.out
    · have hki : ¬ (k : Int) < nl := by omega
      obtain rfl : nl = k := by omega
      have HF1 : Aside (FirstK d d.lots.length) := by rw [← HNL.out]; exact HFK.out
      have HBw := aside HBR.out.1
      obtain ⟨rv, hrv⟩ : ∃ r, r = d.toV b (.slice al d.lots.length cl) (.slice ao d.owners.length co) := ⟨_, rfl⟩
      have HRw : Aside (RecIn wr L rv) := by rw [hrv]; exact HBR.out.2
      have HRV := aside hrv
      have HOWN : Aside (∀ W, RecIn W L rv → W.cell? ⟨L, 48, none⟩ = some (.slice ao no co)) := by rw [hrv, HNO.out]; exact fun W hW => hW.owners
      have HLOT : Aside (∀ W, RecIn W L rv → W.cell? ⟨L, 47, none⟩ = some (.slice al nl cl)) := by rw [hrv, HNL.out]; exact fun W hW => hW.lots
      have c48 : wr.cell? ⟨L, 48, none⟩ = some (.slice ao no co) := HOWN.out wr HRw.out
      have c43 : wr.cell? ⟨L, 43, none⟩ = some (.int .i64 d.carriers) := by have := HRw.out.carriers; rw [hrv] at this; exact this
      have HLP : Aside (L ≠ p) := by have := HSS.out p HH.out.own; have := HLw.out; rw [Aside]; omega
      rw [← hrv]
      clear hrv HFK HBR HM hg hki
      go_wp2_with fail
      clear c48
      go_loop [40] (fun i => ∃ k2 : Nat, k2 ≤ no ∧ i = .int .i64 k2 ∧ Aside (∀ i, i < k2 → d.owners.getD i 0 < d.carriers)) (fun i => no - (intOf i).toNat)
      case atStart => exact ⟨0, Nat.zero_le _, rfl, fun i hi => absurd hi (by omega)⟩
      case round =>
        obtain ⟨k2, hk2, rfl, hc2⟩ := hrel
        have HC2 := aside hc2
        clear hc2
        by_cases hk2n : k2 < no
        · have hki : (k2 : Int) < no := by omega
          obtain ⟨lb, lo, rfl, hlb, hj⟩ := HXO.out (by rw [← HNO.out]; omega)
          have hjk := hj k2 (by rw [← HNO.out]; exact hk2n)
          obtain ⟨x, hx⟩ : ∃ x, x = d.owners.getD k2 0 := ⟨_, rfl⟩
          have c1 : wr.cell? ⟨lb, lo + k2, none⟩ = some (.int .i64 x) := by rw [hx]; exact (HBw.out.cell hlb).trans hjk
          have HX := aside hx
          clear hj hjk hlb hx
          by_cases hxc : x < d.carriers
          · go_wp2_with fail
            go_round
            case rel => exact ⟨k2 + 1, hk2n, by go_num, fun i hi => by
              by_cases e : i = k2
              · rw [e, ← HX.out]; exact hxc
              · exact HC2.out.out i (by omega)⟩
            case measure => simp [intOf]; omega
          · have HNB : Aside (¬ BeginP d) := fun hb => hxc (by rw [HX.out]; exact hb.2 k2 (by rw [← HNO.out]; exact hk2n))
            go_wp2_with fail
            go_ret
            rw [HR.out, if_neg HNB.out]
            exact step_none HH.out HSS.out HBw.out
        · have hki : ¬ (k2 : Int) < no := by omega
          obtain rfl : no = k2 := by omega
          have HBP : Aside (BeginP d) := ⟨HF1.out, by rw [← HNO.out]; exact HC2.out.out⟩
          clear HC2 c43
          obtain ⟨cp, hcp⟩ : ∃ c, c = (recCells rv).toList := ⟨_, rfl⟩
          have hi1 : (Tryz.prog.info? 49).map (·.size) = some cp.length := by rw [hcp, Array.length_toList, recCells_size]; kernel_rfl
          have HCR : Aside (∀ W, RecIn W L rv → W.rangeAt L 0 cp) := by rw [hcp]; exact fun W hW => recRange hW
          have HCP : Aside (cp = (recCells rv).toList) := hcp
          have HONE : Aside ((recCells rv).all (·.oneCell') = true) := by
            rw [HRV.out]
            obtain ⟨ab, cb, rfl, _⟩ := HRB.out
            exact recCells_one _ rfl rfl rfl
          have HSRC : Aside (∀ W, Below w.heap.size w W → Src W (.slice ao no co) no 1 (d.owners.map (Value.int .i64))) := fun W hW => by
            have := (RowI.on HRW.out hW).src
            rw [← HNO.out] at this
            exact this
          have HSTR : Aside (∀ W, MdIn W p v → (Instr.storeAt 49 (.pointer (some ⟨p, 0, none⟩)) (.agg cp.toArray)).run Tryz.prog W = .ok () (W.setCells p 0 cp)) := fun W hW => by
            rw [HCP.out, Array.toArray_toList]
            exact hW.storeRec rv HONE.out
          have HSET : Aside (∀ W, MdIn W p v → MdIn (W.setCells p 0 cp) p { v with scn := rv }) := fun W hW => by
            rw [HCP.out]
            exact hW.setRec rv
          clear hcp
          go_upto_region 15 with fail
          refine wp_region_held_drew (S := fun W => RecIn W L rv) (by kernel_rfl) (HRw.out.drew) (fun hHeld => ?_)
          refine wpAnyH_take (i := 0) (oi := _) (v := .pointer (some ⟨p, 0, none⟩)) rfl (by kernel_rfl) (by kernel_rfl) (by kernel_rfl) (fun _ _ _ h => h) (Or.inl ⟨by rfl, ?_⟩) hHeld ?_
          · intro W hSw
            go_simp
          try simp only [Act.put, ps]
          refine wpAnyH_take (i := 1) (oi := _) (v := .pointer (some ⟨p, 0, none⟩)) rfl (by kernel_rfl) (by kernel_rfl) (by kernel_rfl) (fun _ _ _ h => h) (Or.inl ⟨by rfl, ?_⟩) hHeld ?_
          · intro W hSw
            go_simp
          try simp only [Act.put, ps]
          refine wpAnyH_take (i := 2) (oi := _) (v := .agg cp.toArray) rfl (by kernel_rfl) (by kernel_rfl) (by kernel_rfl) (fun _ _ _ h => h) (yieldsIf_load_mid (by rfl) 49 (.tmp 3) rfl L 0 rfl cp _ (fun W hW => HCR.out W hW) Tryz.underlying49 rfl hi1) hHeld ?_
          try simp only [Act.put, ps]
          refine wpAnyH_take (i := 3) (oi := _) (v := .pointer (some ⟨L, 48, none⟩)) rfl (by kernel_rfl) (by kernel_rfl) (by kernel_rfl) (fun _ _ _ h => h) (Or.inl ⟨by rfl, ?_⟩) hHeld ?_
          · intro W hSw
            go_simp
          try simp only [Act.put, ps]
          refine wpAnyH_take (i := 4) (oi := _) (v := .slice ao no co) rfl (by kernel_rfl) (by kernel_rfl) (by kernel_rfl) (fun _ _ _ h => h) (Or.inl ⟨by rfl, ?_⟩) hHeld ?_
          · intro W hSw
            have c : W.cell? ⟨L, 48, none⟩ = some (.slice ao no co) := HOWN.out W hSw
            go_simp
          try simp only [Act.put, ps]
          refine wpAnyH_ready (rs := [5]) (by kernel_rfl) (by simp) ?_
          refine AllReadyH.cons (o := _) rfl (fun K hK => ?_) AllReadyH.nil
          go_simp
          refine (clone_ints _ _ no (d.owners.map (Value.int .i64)) (by omega) (HSRC.out _ (HBw.out.drew))).mono ?_
          rintro e w3 ⟨ov, rfl, hov, hb3⟩
          obtain ⟨oa, oc, rfl, _⟩ := ownsRow_form hov
          have HB3 : Aside (Below w.heap.size w w3) := HBw.out.drew.trans (hb3.mono HBw.out.drew.size)
          have HD3 : Aside (Below wr.heap.size wr w3) := (new_drew wr).trans (hb3.mono (by simp))
          have HR3 := aside (HRw.out.new HD3.out)
          have HOV : Aside (w3.ownsRow wr.heap.size 3 1 (.slice oa no oc) no (d.owners.map (Value.int .i64))) := hov
          have HMD3 := aside (HH.out.here.new HB3.out)
          clear hov hb3
          refine hK.out _ _ HR3.out (fun hHeld => ?_)
          clear hK K
          try simp only [Act.put, ps]
          refine wpAnyH_take (i := 6) (oi := _) (v := .pointer (some ⟨p, 0, none⟩)) rfl (by kernel_rfl) (by kernel_rfl) (by kernel_rfl) (fun _ _ _ h => h) (Or.inl ⟨by rfl, ?_⟩) hHeld ?_
          · intro W hSw
            go_simp
          try simp only [Act.put, ps]
          refine wpAnyH_take (i := 7) (oi := _) (v := .pointer (some ⟨p, 0, none⟩)) rfl (by kernel_rfl) (by kernel_rfl) (by kernel_rfl) (fun _ _ _ h => h) (Or.inl ⟨by rfl, ?_⟩) hHeld ?_
          · intro W hSw
            go_simp
          try simp only [Act.put, ps]
          refine wpAnyH_ready (rs := [8]) (by kernel_rfl) (by simp) ?_
          refine AllReadyH.cons (o := _) rfl (fun K hK => ?_) AllReadyH.nil
          refine step_store_by rfl 49 _ _ rfl (.pointer (some ⟨p, 0, none⟩)) (.agg cp.toArray) rfl rfl (HSTR.out w3 HMD3.out) ?_
          obtain ⟨w4, hw4⟩ : ∃ z, z = w3.setCells p 0 cp := ⟨_, rfl⟩
          rw [← hw4]
          have HMD4 : Aside (MdIn w4 p { v with scn := rv }) := by rw [hw4]; exact HSET.out w3 HMD3.out
          have HK4 : Aside (Keeps (· ≠ p) w3 w4) := by rw [hw4]; exact keeps_cells _ _ _ _
          have HR4 : Aside (RecIn w4 L rv) := HR3.out.keeps HK4.out HLP.out
          clear hw4
          refine hK.out _ _ HR4.out (fun hHeld => ?_)
          clear hK K
          try simp only [Act.put, ps]
          refine wpAnyH_take (i := 9) (oi := _) (v := .pointer (some ⟨p, 0, none⟩)) rfl (by kernel_rfl) (by kernel_rfl) (by kernel_rfl) (fun _ _ _ h => h) (Or.inl ⟨by rfl, ?_⟩) hHeld ?_
          · intro W hSw
            go_simp
          try simp only [Act.put, ps]
          refine wpAnyH_take (i := 10) (oi := _) (v := .pointer (some ⟨p, 49, none⟩)) rfl (by kernel_rfl) (by kernel_rfl) (by kernel_rfl) (fun _ _ _ h => h) (Or.inl ⟨by rfl, ?_⟩) hHeld ?_
          · intro W hSw
            go_simp
          try simp only [Act.put, ps]
          have c49 := HMD4.out.owners
          have f49 := HMD4.out.free 49
          refine wpAnyH_ready (rs := [11]) (by kernel_rfl) (by simp) ?_
          refine AllReadyH.cons (o := _) rfl (fun K hK => ?_) AllReadyH.nil
          go_simp
          obtain ⟨w5, hw5⟩ : ∃ z, z = w4.setCell ⟨p, 49, none⟩ (.slice oa no oc) := ⟨_, rfl⟩
          rw [← hw5]
          have HMD5 : Aside (MdIn w5 p { v with scn := rv, owners := .slice oa no oc }) := by rw [hw5]; exact HMD4.out.setOwners (.slice oa no oc)
          have HK5 : Aside (Keeps (· ≠ p) w3 w5) := by rw [hw5]; exact HK4.out.setCell (p := ⟨p, 49, none⟩) (.inr (fun h => h rfl)) (.slice oa no oc)
          have HR5 : Aside (RecIn w5 L rv) := HR3.out.keeps HK5.out HLP.out
          clear hw5 c49 f49
          refine hK.out _ _ HR5.out (fun hHeld => ?_)
          clear hK K
          try simp only [Act.put, ps]
          refine wpAnyH_done (by kernel_rfl) ?_ _
          have HK5S : Aside (Keeps (fun k => ¬ S k) w w5) := (keeps_of_new HB3.out _).trans (HK5.out.mono (fun k _ hk e => hk (by rw [e]; exact HH.out.own)))
          have d47 := HLOT.out w5 HR5.out
          have hLp : L ≠ p := HLP.out
          have HSRL : Aside (Src w5 (.slice al nl cl) nl 2 (ltCells d.lots)) := by
            have hra := HRO.out w5 HK5S.out
            rw [← HRV.out] at hra
            obtain ⟨b', l', o', e, _, hl', _⟩ := hra
            have el : l' = .slice al d.lots.length cl := by have h1 := congrArg RecV.lots HRV.out; have h2 := congrArg RecV.lots e; exact h2.symm.trans h1
            rw [el] at hl'
            have := hl'.src
            rw [← HNL.out] at this
            exact this
          have HMDW := HMD5
          clear HMD3 HMD4 HK4 HR3 HR4 hHeld hi1 HMDW
          go_wp2_with fail
          refine (clone_lots w5 _ nl (ltCells d.lots) (by omega) HSRL.out).mono ?_
          rintro e w6 ⟨lv, rfl, hlv, hb6⟩
          obtain ⟨la, lc, rfl, _⟩ := ownsRow_form hlv
          have HLV := aside hlv
          have HMD6 := aside (HMD5.out.new hb6)
          have HR6 := aside (HR5.out.new hb6)
          have HB56 := aside hb6
          have d47 := HLOT.out w6 HR6.out
          have e47 := HMD6.out.rlots
          have e48 := HMD6.out.rowners
          have f47 := HMD6.out.free 47
          have f48 := HMD6.out.free 48
          clear hlv hb6
          go_upto_region 17 with fail
          obtain ⟨w7, hw7⟩ : ∃ z, z = (w6.setCell ⟨p, 47, none⟩ (.slice la nl lc)).setCell ⟨p, 48, none⟩ (.slice none 0 0) := ⟨_, rfl⟩
          rw [← hw7]
          have HMD7 : Aside (MdIn w7 p { v with scn := { rv with lots := .slice la nl lc, owners := .slice none 0 0 }, owners := .slice oa no oc }) := by rw [hw7]; exact (HMD6.out.setRlots _).setRowners _
          have HK7 : Aside (Keeps (· ≠ p) w6 w7) := by rw [hw7]; exact ((Keeps.refl _ _).setCell (p := ⟨p, 47, none⟩) (.inr (fun h => h rfl)) _).setCell (p := ⟨p, 48, none⟩) (.inr (fun h => h rfl)) _
          clear hw7 d47 e47 e48 f47 f48
          have d47 := HLOT.out w7 (HR6.out.keeps HK7.out HLP.out)
          obtain ⟨i0, hi, hz0, hz1, hz2⟩ := info_parts Tryz.infoInt
          have HZ2 := aside hz2
          clear hz2
          go_wp2_with (first
            | (refine wpList_make_full _ rfl _ _ 41 rfl 0 3 i0 (.int .i64 0) 1 Tryz.underlying41 hi hz0 hz1 .i64 .i64 nl nl nl rfl rfl rfl rfl (by rw [HZ2.out]; omega) (by unfold maxLen; omega) (Nat.zero_le _) ?_; intro w8 hown8 hg8; have HMD8 := aside (HMD7.out.keeps (keeps_grown hg8 (fun _ => True) (fun j hj => by cases hj)) trivial); have e50 := HMD8.out.states; have f50 := HMD8.out.free 50; have HOWN8 := aside hown8; have HG8 := aside hg8; clear hown8 hg8)
            | fail)
          go_ret
          rw [HR.out, if_pos HBP.out]
          exact begin_fin HH.out HSS.out HF.out HWF.out HRV.out HNO.out HNL.out HDK.out HBw.out.size HB3.out HOV.out HK5.out HB56.out HLV.out HK7.out HOWN8.out HG8.out HMD8.out
end Go.Proofs.YtfnekbfcndkjeaaGreatDoor
