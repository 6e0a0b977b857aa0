/- reveals, walked (where the scheme is not that of sums). Printed by wip/gen/mdr.py. -/
import Derived.Test.YtfnekbfcndkjeaaGreatDoorSMdb2
import Derived.Test.YtfnekbfcndkjeaaGreatDoorSMdsl
set_option linter.all false
namespace Go.Proofs.YtfnekbfcndkjeaaGreatDoor
open Go.RowKit Go.Maps
theorem mapF_put_run {w : World} {b n : Nat} {f : Int → Option Value} (hf : MapF w b n f) (t e : TypeId) (ht : Tryz.prog.underlying t = some (.map 3 e)) (hn : n < maxLen) (c : Int) (v : Value) (hc : I64 c) :
    ∃ w', (Instr.mapUpdate t (.map (some b)) (.int .i64 c) v).run Tryz.prog w = .ok () w' ∧ MapF w' b (n + 1) (upF f c v) ∧ w.grownBy w' (some b) := by
  obtain ⟨D, hown, hr⟩ := hf
  obtain ⟨w', hrun, hown', hgrow⟩ := hown.update Tryz.keyed ht hn (key_of hc) (show heldE v = some (.held v, []) from rfl)
  refine ⟨w', hrun, ⟨_, hown', fun c' hc' => ?_⟩, hgrow⟩
  have hI := hown.isMap
  by_cases h : c' = c
  · subst h
    have hk : WideAt.IsKeyLit (.int .i64 c') := trivial
    exact ⟨by rw [has_put_same hI hk]; simp [upF], fun u hu z => by rw [atKey_put_same hI hk]; simp [upF] at hu; rw [hu]⟩
  · have hne : (Lit.int .i64 c' : Lit) ≠ .int .i64 c := fun e => h (by injection e)
    obtain ⟨h1, h2⟩ := hr c' hc'
    refine ⟨by rw [has_put_other hne, h1]; simp [upF, h], fun u hu z => ?_⟩
    rw [atKey_put_other hne]
    exact h2 u (by simpa [upF, h] using hu) z
theorem step_mapF_put {ops : Array Oper} {o : Oper} {a : Act} {K : Act → World → Prop} {Q : Exit → Act → World → Prop} {E' : Prop} {w : World} (hgd : o.guard = none) (m x y : Operand) (t e : TypeId) (ho : o.op = .mapUpdate t m x y) (ht : Tryz.prog.underlying t = some (.map 3 e))
    (b n : Nat) (f : Int → Option Value) (hm : a.eval m = .map (some b)) (hf : MapF w b n f) (hn : n < maxLen) (c : Int) (v : Value) (hx : a.eval x = .int .i64 c) (hv : a.eval y = v) (hc : I64 c)
    (h : ∀ w', MapF w' b (n + 1) (upF f c v) → w.grownBy w' (some b) → K (a.put o.dst undef) w') : if Region.wanted o (yielded ops a.tmps) = true then Oper.wp Tryz.prog o a w K Q else E' := by
  have hw : Region.wanted o (yielded ops a.tmps) = true := by simp [Region.wanted, hgd]
  rw [if_pos hw]
  obtain ⟨w', hr, h1, h2⟩ := mapF_put_run hf t e ht hn c v hc
  unfold Oper.wp execOp
  simp only [ho, hm, hx, hv, Sem.run_bind, hr, Result.andThen_ok, Sem.run_pure]
  exact h w' h1 h2
def zDig : Array Value := Array.replicate 32 (.int .u8 0)
theorem zeroDig (w : World) : (zeroValue 43).run Tryz.prog w = .ok (.agg zDig) w := by kernel_rfl
theorem zeroU (w : World) : (zeroValue 44).run Tryz.prog w = .ok (.int .u64 0) w := by kernel_rfl
theorem dig_look (f : Int → Option (List Int)) (hf : ∀ c l, f c = some l → l.length = 32 ∧ Bs l) (c : Int) : ∃ ya : Array Value, (digF f c).getD (.agg zDig) = .agg ya ∧ ya.size = 32 ∧ ya.all (·.oneCell') = true ∧ ∀ l, f c = some l → ya = (l.map (Value.int .u8)).toArray := by
  cases h : f c with
  | none => exact ⟨zDig, by simp [digF, h], rfl, by kernel_rfl, fun l hl => by cases hl⟩
  | some l =>
    refine ⟨(l.map (Value.int .u8)).toArray, by simp [digF, h, digV], by simpa using (hf c l h).1, ?_, fun l' hl => by obtain rfl := Option.some.inj hl; rfl⟩
    rw [Array.all_eq_true_iff_forall_mem]
    intro x hx
    obtain ⟨z, _, rfl⟩ := List.mem_map.1 (by simpa using hx)
    rfl
theorem has_look {α : Type} (f : Int → Option α) (g : α → Value) (c : Int) : ((f c).map g).isSome = (f c).isSome := by cases f c <;> rfl
theorem upF_dig (f : Int → Option (List Int)) (c : Int) (l : List Int) : upF (digF f) c (digV l) = digF (upF f c l) := by
  funext k
  unfold upF digF
  by_cases h : k = c <;> simp [h]
theorem upF_bid (f : Int → Option Int) (c b : Int) : upF (bidF f) c (.int .u64 b) = bidF (upF f c b) := by
  funext k
  unfold upF bidF
  by_cases h : k = c <;> simp [h]
theorem store_dig (w : World) (ya : Array Value) (hs : ya.size = 32) (h1 : ya.all (·.oneCell') = true) : (Instr.storeAt 43 (.pointer (some ⟨w.heap.size, 0, none⟩)) (.agg ya)).run Tryz.prog (w.alloc (.cells zDig 43)) = .ok () (w.alloc (.cells ya 43)) :=
  run_storeAt_new' w 43 zDig ya (by rw [hs]; kernel_rfl) (by rw [hs]; rfl) h1
end Go.Proofs.YtfnekbfcndkjeaaGreatDoor
namespace Go.Proofs.YtfnekbfcndkjeaaGreatDoor
open Go.RowKit
structure RdOk (d : RecD) : Prop where
  tick : 0 ≤ d.tick ∧ d.tick ≤ 9223372036854775807
  carrier : 0 ≤ d.carrier ∧ d.carrier ≤ 7
  len : d.dig.length = 32
  dig : Bs d.dig
  bid : 0 ≤ d.bid ∧ d.bid ≤ 18446744073709551615
  nonce : 0 ≤ d.nonce ∧ d.nonce ≤ 18446744073709551615
set_option maxHeartbeats 4000000 in
set_option maxRecDepth 100000 in
theorem commits_none {S : Nat → Prop} {n : Nat} {w : World} {p : Nat} {v : ModV} {st : MSt} (h : ModIn S n w p v st) (hS : ∀ k, S k → k < w.heap.size) (hno : st.opn = none) (rv : RecV) :
    Calls Tryz.prog 42 #[.pointer (some ⟨p, 0, none⟩), .agg (recCells rv)] w (MStep S n w p st none) := by
  obtain ⟨L, hL⟩ : ∃ x, x = w.heap.size := ⟨_, rfl⟩
  obtain ⟨w0, hw0⟩ : ∃ z, z = w.alloc (.cells (recCells rv) 49) := ⟨_, rfl⟩
  have HN0 : Aside (Below w.heap.size w w0) := by rw [hw0]; exact new_alloc _ _
  have HR0 : Aside (RecIn w0 L rv) := by rw [hw0, hL]; exact RecIn.box _ _
  have HH := aside h
  have HSS := aside hS
  have HNO := aside hno
  have hi0 : (Tryz.prog.info? 49).map (·.size) = some (recCells rv).size := by rw [recCells_size]; kernel_rfl
  clear h hS hno
  go_enter Tryz.func42, Tryz.ntmps42
  go_upto_region 1 with fail
  rw [← hw0, ← hL]
  clear hw0 hL
  go_wp2_with (guard_target =~ wpList _ _ _ _ _ _; refine wpList_load_row rfl _ _ rfl L rfl _ (recCells rv) (0, 0) _ HR0.out Tryz.underlying49 rfl hi0 ?_)
  refine (gone_none (HH.out.new HN0.out) HNO.out rv).mono ?_
  rintro e w1 ⟨rfl, hb1⟩
  have HN1 := aside (HN0.out.trans (hb1.mono HN0.out.size))
  clear hb1 hi0
  go_upto_region 2 with fail
  go_quiet (fail)
  go_wp2_with fail
  go_ret
  exact step_none HH.out HSS.out (below_drewN HN1.out _)
def CoGuard (st : MSt) (o : Opn) (d : RecD) : Prop := d.tick - o.tick < st.scene.commit ∧ d.carrier < st.scene.carriers ∧ d.carrier ∉ st.barred ∧ d.carrier ≠ st.owner o.lot.toNat
instance (st : MSt) (o : Opn) (d : RecD) : Decidable (CoGuard st o d) := by unfold CoGuard; infer_instance
structure CoAt (n : Nat) (W : World) (p L r mb bb : Nat) (v : ModV) (op : Opn) (rv : RecV) : Prop where
  md : MdIn W p v
  rnd : RndIn W r op mb bb
  marks : MapF W mb n (digF op.marks)
  bids : MapF W bb n (bidF op.bids)
  rc : RecIn W L rv
theorem CoAt.new {n : Nat} {w W : World} {p L r mb bb : Nat} {v : ModV} {op : Opn} {rv : RecV} (h : CoAt n w p L r mb bb v op rv) (hb : Below w.heap.size w W) : CoAt n W p L r mb bb v op rv :=
  ⟨h.md.new hb, h.rnd.keeps (keeps_of_new hb (fun _ => True)) trivial, h.marks.new hb, h.bids.new hb, h.rc.new hb⟩
theorem mark_fin {S : Nat → Prop} {n : Nat} {w wz : World} {p r mb : Nat} {v : ModV} {st : MSt} {op : Opn} {d : RecD} (h : ModIn S n w p v st) (ho : st.opn = some op) (hov : v.opn = .pointer (some ⟨r, 0, none⟩)) (hsm : S mb) (hK : Keeps (· ≠ mb) w wz)
    (hM : MapF wz mb (n + 1) (digF (upF op.marks d.carrier d.dig))) (hd : RdOk d) (hmb : ∃ cs, w.heap[r]? = some (.cells cs 133 (0, 0)) ∧ cs[49]? = some (.map (some mb))) (hmap : ∃ es ck, w.heap[mb]? = some (.map es ck)) : ModIn S (n + 1) wz p v (commitsS st op d) := by
  obtain ⟨es, ck, hmh⟩ := hmap
  have hne : ∀ {k : Nat} {cs : Array Value} {T : TypeId} {fr : Nat × Nat}, w.heap[k]? = some (.cells cs T fr) → k ≠ mb := fun hk e => by rw [e, hmh] at hk; cases hk
  have hopn := h.opn
  rw [ho] at hopn
  obtain ⟨r', mb', bb', e, h1, h2, h3, h4, h5, h6, h7, h8⟩ := hopn
  obtain rfl : r' = r := by rw [hov] at e; injection e with e; injection e with e; injection e with e; exact e.symm
  obtain ⟨cs, hc, hc49⟩ := hmb
  obtain rfl : mb' = mb := by
    have := h5.marks
    rw [cell_whole hc, hc49] at this
    injection this with this; injection this with this; injection this with this; exact this.symm
  refine ⟨h.here.keeps hK (hne h.here), h.own, h.scn, ?_, ?_, ?_, ?_, ?_, h.ap1, h.ap2, h.ap3, ?_, h.tick, h.ended, Nat.le_trans h.nout (Nat.le_succ n), h.sok⟩
  · exact h.lots.keep hK (fun k hk => by obtain ⟨cur, hh⟩ := h.lots.block k hk; exact hne hh)
  · exact h.owners.keep hK (fun k hk => by obtain ⟨cur, hh⟩ := h.owners.block k hk; exact hne hh)
  · exact h.states.keep hK (fun k hk => by obtain ⟨cur, hh⟩ := h.states.block k hk; exact hne hh)
  · exact h.outs.keep hK (fun k hk => by obtain ⟨cur, hh⟩ := h.outs.block k hk; exact hne hh)
  · exact h.barred.keep hK (fun k hk => by obtain ⟨cur, hh⟩ := h.barred.block k hk; exact hne hh)
  refine ⟨r', mb', bb', e, h1, h2, h3, h4, (h5.same (o' := { op with marks := upF op.marks d.carrier d.dig }) rfl rfl rfl).keeps hK (hne hc), hM, (h7.keeps hK (Ne.symm h4)).mono (Nat.le_succ n), fun c l hl => ?_⟩
  have hl' : (if c = d.carrier then some d.dig else op.marks c) = some l := hl
  split at hl'
  · obtain rfl := Option.some.inj hl'; exact ⟨hd.len, hd.dig⟩
  · exact h8 c l hl'
set_option maxHeartbeats 4000000 in
set_option maxRecDepth 100000 in
theorem commits_some {S : Nat → Prop} {n : Nat} {w : World} {p : Nat} {v : ModV} {st : MSt} (h : ModIn S n w p v st) (hS : ∀ k, S k → k < w.heap.size) (hn : n < 1000000000) (hwf : st.Wf) (op : Opn) (hop : st.opn = some op) (rv : RecV) (d : RecD) (hrv : ∃ b l ow, rv = d.toV b l ow) (hd : RdOk d) :
    Calls Tryz.prog 42 #[.pointer (some ⟨p, 0, none⟩), .agg (recCells rv)] w (MStep S n w p st (if CommitsP st op d then some (commitsS st op d) else none)) := by
  obtain ⟨R, hR⟩ : ∃ R, R = (if CommitsP st op d then some (commitsS st op d) else none) := ⟨_, rfl⟩
  rw [← hR]
  have HR := aside hR
  clear hR
  obtain ⟨L, hL⟩ : ∃ x, x = w.heap.size := ⟨_, rfl⟩
  obtain ⟨w0, hw0⟩ : ∃ z, z = w.alloc (.cells (recCells rv) 49) := ⟨_, rfl⟩
  have HN0 : Aside (Below w.heap.size w w0) := by rw [hw0]; exact new_alloc _ _
  have HR0 : RecIn w0 L rv := by rw [hw0, hL]; exact RecIn.box _ _
  have HLw : Aside (w.heap.size ≤ L) := Nat.le_of_eq hL.symm
  have hrr : rv.round = d.round := by obtain ⟨b, l, ow, e⟩ := hrv; rw [e]; rfl
  have hrt : rv.tick = d.tick := by obtain ⟨b, l, ow, e⟩ := hrv; rw [e]; rfl
  have hrc : rv.carrier = d.carrier := by obtain ⟨b, l, ow, e⟩ := hrv; rw [e]; rfl
  have hrd : ∀ k, rv.dig k = d.dig.getD k 0 := by obtain ⟨b, l, ow, e⟩ := hrv; rw [e]; exact fun k => rfl
  have HRD := aside hrd
  have HH := aside h
  have HSS := aside hS
  have HWF := aside hwf
  have HD := aside hd
  have HO := aside hop
  obtain ⟨r, mb, bb, hov, hsr, hsm, hsb, hmb, hrnd, hmm, hbm, hlen⟩ : OpnAt S n w v.opn (some op) := by rw [← hop]; exact h.opn
  have HOV := aside hov
  have HSM := aside hsm
  have HLEN := aside hlen
  have HMB := aside hmb
  have HRB : Aside (∃ cs, w.heap[r]? = some (.cells cs 133 (0, 0)) ∧ cs[49]? = some (.map (some mb))) := by obtain ⟨cs, k0, _, _, _, k49, _⟩ := hrnd; exact ⟨cs, k0, k49⟩
  have HMBL : Aside (∃ es ck, w.heap[mb]? = some (.map es ck)) := hmm.block
  have HC0 : Aside (CoAt n w0 p L r mb bb v op rv) := ⟨h.here.new HN0.out, hrnd.keeps (keeps_of_new HN0.out (fun _ => True)) trivial, hmm.new HN0.out, hbm.new HN0.out, HR0⟩
  have HG0 := aside (gone_some (h.new HN0.out) hwf op hop rv (by rw [hrt]; exact hd.tick))
  have hi0 : (Tryz.prog.info? 49).map (·.size) = some (recCells rv).size := by rw [recCells_size]; kernel_rfl
  obtain ⟨c, hc⟩ : ∃ c, c = d.carrier := ⟨_, rfl⟩
  have HC := aside hc
  have HRC : Aside (rv.carrier = c) := by rw [hc]; exact hrc
  have hc7 : 0 ≤ c ∧ c ≤ 7 := by rw [hc]; exact hd.carrier
  have hlot := (hwf.opn op hop).1
  have hlens := hwf.lens
  have hnl := hwf.nlots
  clear h hS hwf hop hrnd hmm hbm hlen hov hsr hsm hsb hmb hd hrv hrd hrc hc
  obtain ⟨g, hg⟩ : ∃ g, g = d.tick - op.tick := ⟨_, rfl⟩
  have HGE := aside hg
  rw [hrr, hrt, ← hg] at HG0
  obtain ⟨lt, hlt⟩ : ∃ q : Nat, op.lot = q := Int.eq_ofNat_of_zero_le hlot.1
  have HLT := aside hlt
  have hlt2 : lt < st.scene.lots.length := by omega
  have HLT2 := aside hlt2
  clear hg hlt hlot HR0 hlt2
  go_enter Tryz.func42, Tryz.ntmps42
  go_upto_region 1 with fail
  rw [← hw0, ← hL]
  clear hw0 hL
  go_wp2_with (guard_target =~ wpList _ _ _ _ _ _; refine wpList_load_row rfl _ _ rfl L rfl _ (recCells rv) (0, 0) _ HC0.out.rc Tryz.underlying49 rfl hi0 ?_)
  refine HG0.out.mono ?_
  rintro e w1 ⟨rfl, hb1⟩
  have HN1 := aside (HN0.out.trans (hb1.mono HN0.out.size))
  have HC1 := aside (HC0.out.new hb1)
  clear hb1 hi0 HC0 HG0
  by_cases hxy : d.round = op.round
  case neg =>
    have HNP : Aside (¬ CommitsP st op d) := fun h => hxy h.1
    rw [if_neg hxy]
    clear hxy hrr hrt
    go_upto_region 2 with fail
    go_quiet (fail)
    go_wp2_with fail
    go_ret
    rw [HR.out, if_neg HNP.out]
    exact step_none HH.out HSS.out (below_drewN HN1.out _)
  case pos =>
  have HXY := aside hxy
  rw [if_pos hxy]
  clear hxy hrr hrt
  have HH1 := aside (HH.out.new HN1.out)
  obtain ⟨cm, hcm⟩ : ∃ x, x = st.scene.commit := ⟨_, rfl⟩
  obtain ⟨ca, hca⟩ : ∃ x, x = st.scene.carriers := ⟨_, rfl⟩
  have c44 : w1.cell? ⟨p, 44, none⟩ = some (.int .i64 cm) := by have := HC1.out.md.rcommit; rw [HH.out.commit, ← hcm] at this; exact this
  have c43 : w1.cell? ⟨p, 43, none⟩ = some (.int .i64 ca) := by have := HC1.out.md.rcarriers; rw [HH.out.carriers, ← hca] at this; exact this
  have e3 : w1.cell? ⟨L, 3, none⟩ = some (.int .i64 c) := by rw [← HRC.out]; exact HC1.out.rc.carrier
  have c53 := HC1.out.md.barred
  have c52 : w1.cell? ⟨p, 52, none⟩ = some (.pointer (some ⟨r, 0, none⟩)) := by rw [← HOV.out]; exact HC1.out.md.opn
  have r2 : w1.cell? ⟨r, 2, none⟩ = some (.int .i64 lt) := by rw [← HLT.out]; exact HC1.out.rnd.lot
  have HBR : Aside (RowI w1 v.barred st.barred) := HH1.out.barred.row
  have hnb : st.barred.length ≤ 8 := HWF.out.nbar
  have HCM := aside hcm
  have HCA := aside hca
  obtain ⟨G, hG⟩ : ∃ G : Bool, G = decide (CoGuard st op d) := ⟨_, rfl⟩
  have HG := aside hG
  obtain ⟨BV, hBV⟩ : ∃ x, x = v.barred := ⟨_, rfl⟩
  rw [← hBV] at c53 HBR
  clear hG hcm hca hBV
  go_upto_region 2 with fail
  go_cut [59] (fun s wx => s = .bool (!G) ∧ ∃ q, wx = w1.drewN q)
  case first =>
    --F
    by_cases h1 : cm ≤ g
    · have HE : Aside (G = false) := by rw [Aside, HG.out]; exact decide_eq_false (fun h => by have := h.1; rw [← HGE.out, ← HCM.out] at this; omega)
      have hb1 : decide (cm ≤ g) = true := by simpa using h1
      clear h1
      go_quiet (fail)
      go_wp2_with fail
      go_meet
      case rel => exact ⟨by rw [HE.out]; rfl, _, rfl⟩
    have H1 := aside h1
    have hb1 : decide (cm ≤ g) = false := by simpa using h1
    clear h1
    by_cases h2 : ca ≤ c
    · have HE : Aside (G = false) := by rw [Aside, HG.out]; exact decide_eq_false (fun h => by have := h.2.1; rw [← HC.out, ← HCA.out] at this; omega)
      have hb2 : decide (ca ≤ c) = true := by simpa using h2
      clear h2
      go_quiet (fail)
      go_wp2_with fail
      go_meet
      case rel => exact ⟨by rw [HE.out]; rfl, _, rfl⟩
    have H2 := aside h2
    have hb2 : decide (ca ≤ c) = false := by simpa using h2
    clear h2
    obtain ⟨B, hB⟩ : ∃ B, B = decide (c ∈ st.barred) := ⟨_, rfl⟩
    have HB := aside hB
    obtain ⟨ow, how⟩ : ∃ x, x = st.owner lt := ⟨_, rfl⟩
    have HOW := aside how
    clear hB how
    cases B with
    | true =>
      have HE : Aside (G = false) := by rw [Aside, HG.out]; exact decide_eq_false (fun h => h.2.2.1 (by rw [← HC.out]; exact of_decide_eq_true HB.out.symm))
      go_quiet ((go_at_call 73; exact contains_quiet HBR.out (by omega) c true HB.out _))
      go_wp2_with fail
      go_meet
      case rel => exact ⟨by rw [HE.out]; rfl, _, rfl⟩
    | false =>
      have HE : Aside ((c == ow) = !G) := by
        rw [Aside, HG.out, ← decide_not, show (c == ow) = decide (c = ow) from rfl]
        refine decide_eq_decide.2 ⟨fun h hh => hh.2.2.2 (by rw [HLT.out, Int.toNat_natCast, ← HC.out, ← HOW.out]; exact h), fun h => ?_⟩
        by_cases he : c = ow
        · exact he
        · exact absurd ⟨by rw [← HGE.out, ← HCM.out]; have := H1.out; omega, by rw [← HC.out, ← HCA.out]; have := H2.out; omega, by rw [← HC.out]; exact of_decide_eq_false HB.out.symm, by rw [HLT.out, Int.toNat_natCast, ← HC.out, ← HOW.out]; exact he⟩ h
      go_quiet (first
        | (go_at_call 74; exact owner_quiet HH1.out HWF.out lt HLT2.out ow HOW.out _)
        | (go_at_call 73; exact contains_quiet HBR.out (by omega) c false HB.out _))
      go_wp2_with fail
      go_meet
      case rel => exact ⟨by rw [← HE.out], _, rfl⟩
    --E
  case rest =>
    obtain ⟨rfl, qq, rfl⟩ := hcut
    obtain ⟨wc, hwc⟩ : ∃ z, z = w1.drewN qq := ⟨_, rfl⟩
    have HNc : Aside (Below w.heap.size w wc) := by rw [hwc]; exact below_drewN HN1.out qq
    have HC1' : Aside (CoAt n wc p L r mb bb v op rv) := by rw [hwc]; exact HC1.out.new (new_drewN _ _)
    rw [← hwc]
    clear hwc HC1 HN1 HBR c44 c43 e3 c53 c52 r2
    have HC1 := HC1'
    clear HC1'
    cases hgg : G with
    | false =>
      have HNP : Aside (¬ CommitsP st op d) := fun h => by
        have h1 := HG.out
        rw [hgg] at h1
        exact (of_decide_eq_false h1.symm) ⟨h.2.1, h.2.2.1, h.2.2.2.1, h.2.2.2.2.1⟩
      clear hgg
      go_wp2_with fail
      go_ret
      rw [HR.out, if_neg HNP.out]
      exact step_none HH.out HSS.out HNc.out
    | true =>
    have hgg2 : CoGuard st op d := of_decide_eq_true (by rw [← HG.out]; exact hgg)
    have HGG := aside hgg2
    clear hgg hgg2
    obtain ⟨ya, hya, hys, hy1, hyl⟩ := dig_look op.marks HLEN.out c
    obtain ⟨has, hhas⟩ : ∃ b, b = (op.marks c).isSome := ⟨_, rfl⟩
    have hci : I64 c := ⟨by omega, by omega⟩
    have HLK : Aside (∀ W, CoAt n W p L r mb bb v op rv → (Instr.lookup 130 (.map (some mb)) (.int .i64 c) true).run Tryz.prog W = .ok (.tuple #[.agg ya, .bool has]) W) := fun W hW => by
      rw [← hya, hhas, ← has_look op.marks digV c]
      exact run_look_ok W 130 43 Tryz.underlying130 (zeroDig W) mb n _ hW.marks c hci
    have HYS := aside hys
    have HY1 := aside hy1
    have HHAS := aside hhas
    clear hya hys hy1 hyl hhas
    go_upto_region 4 with fail
    refine wp_region_held_drew (S := fun W => CoAt n W p L r mb bb v op rv) (by kernel_rfl) (HC1.out.new (new_drew _)) (fun hHeld => ?_)
    refine wpAnyH_take (i := 0) (oi := _) (v := .pointer (some ⟨p, 0, none⟩)) rfl (by kernel_rfl) (by kernel_rfl) (by kernel_rfl) (fun _ _ _ h => h) (Or.inl ⟨by rfl, ?_⟩) hHeld ?_
    · intro W hSw
      go_simp
    try simp only [Act.put, ps]
    refine wpAnyH_take (i := 1) (oi := _) (v := .pointer (some ⟨p, 0, none⟩)) rfl (by kernel_rfl) (by kernel_rfl) (by kernel_rfl) (fun _ _ _ h => h) (Or.inl ⟨by rfl, ?_⟩) hHeld ?_
    · intro W hSw
      go_simp
    try simp only [Act.put, ps]
    refine wpAnyH_take (i := 2) (oi := _) (v := .pointer (some ⟨p, 52, none⟩)) rfl (by kernel_rfl) (by kernel_rfl) (by kernel_rfl) (fun _ _ _ h => h) (Or.inl ⟨by rfl, ?_⟩) hHeld ?_
    · intro W hSw
      go_simp
    try simp only [Act.put, ps]
    refine wpAnyH_take (i := 3) (oi := _) (v := .pointer (some ⟨r, 0, none⟩)) rfl (by kernel_rfl) (by kernel_rfl) (by kernel_rfl) (fun _ _ _ h => h) (Or.inl ⟨by rfl, ?_⟩) hHeld ?_
    · intro W hSw
      have c := hSw.md.opn
      rw [HOV.out] at c
      go_simp
    try simp only [Act.put, ps]
    refine wpAnyH_take (i := 4) (oi := _) (v := .pointer (some ⟨r, 0, none⟩)) rfl (by kernel_rfl) (by kernel_rfl) (by kernel_rfl) (fun _ _ _ h => h) (Or.inl ⟨by rfl, ?_⟩) hHeld ?_
    · intro W hSw
      go_simp
    try simp only [Act.put, ps]
    refine wpAnyH_take (i := 5) (oi := _) (v := .pointer (some ⟨r, 49, none⟩)) rfl (by kernel_rfl) (by kernel_rfl) (by kernel_rfl) (fun _ _ _ h => h) (Or.inl ⟨by rfl, ?_⟩) hHeld ?_
    · intro W hSw
      go_simp
    try simp only [Act.put, ps]
    refine wpAnyH_take (i := 6) (oi := _) (v := .map (some mb)) rfl (by kernel_rfl) (by kernel_rfl) (by kernel_rfl) (fun _ _ _ h => h) (Or.inl ⟨by rfl, ?_⟩) hHeld ?_
    · intro W hSw
      have c := hSw.rnd.marks
      go_simp
    try simp only [Act.put, ps]
    refine wpAnyH_take (i := 7) (oi := _) (v := .pointer (some ⟨L, 3, none⟩)) rfl (by kernel_rfl) (by kernel_rfl) (by kernel_rfl) (fun _ _ _ h => h) (Or.inl ⟨by rfl, ?_⟩) hHeld ?_
    · intro W hSw
      go_simp
    try simp only [Act.put, ps]
    refine wpAnyH_take (i := 8) (oi := _) (v := .int .i64 c) rfl (by kernel_rfl) (by kernel_rfl) (by kernel_rfl) (fun _ _ _ h => h) (Or.inl ⟨by rfl, ?_⟩) hHeld ?_
    · intro W hSw
      have e := hSw.rc.carrier
      rw [HRC.out] at e
      go_simp
    try simp only [Act.put, ps]
    refine wpAnyH_take (i := 9) (oi := _) (v := .tuple #[.agg ya, .bool has]) rfl (by kernel_rfl) (by kernel_rfl) (by kernel_rfl) (fun _ _ _ h => h) (Or.inl ⟨by rfl, ?_⟩) hHeld ?_
    · intro W hSw
      have hl := HLK.out W hSw
      go_simp
    try simp only [Act.put, ps]
    refine wpAnyH_take (i := 10) (oi := _) (v := .tuple #[.agg ya, .bool has]) rfl (by kernel_rfl) (by kernel_rfl) (by kernel_rfl) (fun _ _ _ h => h) (Or.inl ⟨by rfl, ?_⟩) hHeld ?_
    · intro W hSw
      go_simp
    try simp only [Act.put, ps]
    refine wpAnyH_take (i := 11) (oi := _) (v := .agg ya) rfl (by kernel_rfl) (by kernel_rfl) (by kernel_rfl) (fun _ _ _ h => h) (Or.inl ⟨by rfl, ?_⟩) hHeld ?_
    · intro W hSw
      go_simp
    try simp only [Act.put, ps]
    refine wpAnyH_take (i := 12) (oi := _) (v := .bool has) rfl (by kernel_rfl) (by kernel_rfl) (by kernel_rfl) (fun _ _ _ h => h) (Or.inl ⟨by rfl, ?_⟩) hHeld ?_
    · intro W hSw
      go_simp
    try simp only [Act.put, ps]
    refine wpAnyH_ready (rs := [13]) (by kernel_rfl) (by simp) ?_
    refine AllReadyH.cons (o := _) rfl (fun K hK => ?_) AllReadyH.nil
    go_simp
    refine hK.out _ (wc.drew.alloc (.cells zDig 43)) (HC1.out.new (new_trans (new_drew wc) (new_alloc _ _))) (fun hHeld => ?_)
    clear hK K
    try simp only [Act.put, ps]
    refine wpAnyH_ready (rs := [14]) (by kernel_rfl) (by simp) ?_
    refine AllReadyH.cons (o := _) rfl (fun K hK => ?_) AllReadyH.nil
    refine step_store_by rfl 43 _ _ rfl (.pointer (some ⟨wc.heap.size, 0, none⟩)) (.agg ya) rfl rfl (store_dig wc.drew ya HYS.out HY1.out) ?_
    obtain ⟨w3, hw3⟩ : ∃ z, z = wc.drew.alloc (.cells ya 43) := ⟨_, rfl⟩
    obtain ⟨D, hDD⟩ : ∃ x, x = wc.heap.size := ⟨_, rfl⟩
    have HW3 := aside hw3
    have HB3 : Aside (Below wc.heap.size wc w3) := by rw [hw3]; exact new_trans (new_drew wc) (new_alloc _ _)
    have HD3 : Aside (w3.heap[D]? = some (.cells ya 43 (0, 0))) := by rw [hw3, hDD]; exact heap_new _ _
    rw [← hw3, ← hDD]
    have HDD : Aside (w.heap.size ≤ D) := by rw [hDD]; exact HNc.out.size
    clear hw3 hDD
    refine hK.out _ _ (HC1.out.new HB3.out) (fun hHeld => ?_)
    clear hK K
    try simp only [Act.put, ps]
    refine wpAnyH_take (i := 15) (oi := _) (v := .bool has) rfl (by kernel_rfl) (by kernel_rfl) (by kernel_rfl) (fun _ _ _ h => h) (Or.inl ⟨by rfl, ?_⟩) hHeld ?_
    · intro W hSw
      go_simp
    try simp only [Act.put, ps]
    refine wpAnyH_done (by kernel_rfl) ?_ _
    have HC3 := aside (HC1.out.new HB3.out)
    have HN3 := aside (HNc.out.trans (HB3.out.mono HNc.out.size))
    clear HC1 hHeld
    cases has with
    | true =>
      have HNP : Aside (¬ CommitsP st op d) := fun h => by
        have h1 := h.2.2.2.2.2
        have h2 := HHAS.out
        rw [HC.out] at h2
        cases hm : op.marks d.carrier with
        | none => rw [hm] at h2; cases h2
        | some l => rw [hm] at h1; cases h1
      go_wp2_with fail
      go_ret
      rw [HR.out, if_neg HNP.out]
      exact step_none HH.out HSS.out HN3.out
    | false =>
    have HCP : Aside (CommitsP st op d) := ⟨HXY.out, HGG.out.1, HGG.out.2.1, HGG.out.2.2.1, HGG.out.2.2.2, by
      have h2 := HHAS.out
      rw [HC.out] at h2
      cases hm : op.marks d.carrier with
      | none => rfl
      | some l => rw [hm] at h2; cases h2⟩
    obtain ⟨cp, hcp⟩ : ∃ x : List Value, x = (List.range 32).map fun j => Value.int .u8 (rv.dig j) := ⟨_, rfl⟩
    have HCPL : Aside (cp.toArray = (d.dig.map (Value.int .u8)).toArray) := by
      rw [hcp]
      congr 1
      apply List.ext_getElem?
      intro i
      by_cases hi : i < 32
      · rw [List.getElem?_map, List.getElem?_range hi, List.getElem?_map, List.getElem?_eq_getElem (by rw [HD.out.len]; exact hi)]
        show some (Value.int .u8 (rv.dig i)) = _
        rw [HRD.out i, List.getD_eq_getElem?_getD, List.getElem?_eq_getElem (by rw [HD.out.len]; exact hi)]
        rfl
      · rw [List.getElem?_eq_none (by simp; omega), List.getElem?_eq_none (by rw [List.length_map, HD.out.len]; omega)]
    have hi1 : (Tryz.prog.info? 43).map (·.size) = some cp.length := by rw [hcp, List.length_map, List.length_range]; kernel_rfl
    have HCR : Aside (∀ W, RecIn W L rv → W.rangeAt L 6 cp) := by rw [hcp]; exact fun W hW => hW.digRange
    clear hcp
    go_upto_region 7 with fail
    refine wp_region_held_drew (S := fun W => MdIn W p v ∧ RndIn W r op mb bb ∧ RecIn W L rv) (by kernel_rfl) ((⟨(HC3.out.new (new_drew _)).md, (HC3.out.new (new_drew _)).rnd, (HC3.out.new (new_drew _)).rc⟩ : MdIn w3.drew p v ∧ RndIn w3.drew r op mb bb ∧ RecIn w3.drew L rv)) (fun hHeld => ?_)
    refine wpAnyH_take (i := 0) (oi := _) (v := .pointer (some ⟨p, 0, none⟩)) rfl (by kernel_rfl) (by kernel_rfl) (by kernel_rfl) (fun _ _ _ h => h) (Or.inl ⟨by rfl, ?_⟩) hHeld ?_
    · intro W hSw
      go_simp
    try simp only [Act.put, ps]
    refine wpAnyH_take (i := 1) (oi := _) (v := .pointer (some ⟨p, 0, none⟩)) rfl (by kernel_rfl) (by kernel_rfl) (by kernel_rfl) (fun _ _ _ h => h) (Or.inl ⟨by rfl, ?_⟩) hHeld ?_
    · intro W hSw
      go_simp
    try simp only [Act.put, ps]
    refine wpAnyH_take (i := 2) (oi := _) (v := .pointer (some ⟨p, 52, none⟩)) rfl (by kernel_rfl) (by kernel_rfl) (by kernel_rfl) (fun _ _ _ h => h) (Or.inl ⟨by rfl, ?_⟩) hHeld ?_
    · intro W hSw
      go_simp
    try simp only [Act.put, ps]
    refine wpAnyH_take (i := 3) (oi := _) (v := .pointer (some ⟨r, 0, none⟩)) rfl (by kernel_rfl) (by kernel_rfl) (by kernel_rfl) (fun _ _ _ h => h) (Or.inl ⟨by rfl, ?_⟩) hHeld ?_
    · intro W hSw
      have c := hSw.1.opn
      rw [HOV.out] at c
      go_simp
    try simp only [Act.put, ps]
    refine wpAnyH_take (i := 4) (oi := _) (v := .pointer (some ⟨r, 0, none⟩)) rfl (by kernel_rfl) (by kernel_rfl) (by kernel_rfl) (fun _ _ _ h => h) (Or.inl ⟨by rfl, ?_⟩) hHeld ?_
    · intro W hSw
      go_simp
    try simp only [Act.put, ps]
    refine wpAnyH_take (i := 5) (oi := _) (v := .pointer (some ⟨r, 49, none⟩)) rfl (by kernel_rfl) (by kernel_rfl) (by kernel_rfl) (fun _ _ _ h => h) (Or.inl ⟨by rfl, ?_⟩) hHeld ?_
    · intro W hSw
      go_simp
    try simp only [Act.put, ps]
    refine wpAnyH_take (i := 6) (oi := _) (v := .map (some mb)) rfl (by kernel_rfl) (by kernel_rfl) (by kernel_rfl) (fun _ _ _ h => h) (Or.inl ⟨by rfl, ?_⟩) hHeld ?_
    · intro W hSw
      have c := hSw.2.1.marks
      go_simp
    try simp only [Act.put, ps]
    refine wpAnyH_take (i := 7) (oi := _) (v := .pointer (some ⟨L, 3, none⟩)) rfl (by kernel_rfl) (by kernel_rfl) (by kernel_rfl) (fun _ _ _ h => h) (Or.inl ⟨by rfl, ?_⟩) hHeld ?_
    · intro W hSw
      go_simp
    try simp only [Act.put, ps]
    refine wpAnyH_take (i := 8) (oi := _) (v := .int .i64 c) rfl (by kernel_rfl) (by kernel_rfl) (by kernel_rfl) (fun _ _ _ h => h) (Or.inl ⟨by rfl, ?_⟩) hHeld ?_
    · intro W hSw
      have e := hSw.2.2.carrier
      rw [HRC.out] at e
      go_simp
    try simp only [Act.put, ps]
    refine wpAnyH_take (i := 9) (oi := _) (v := .pointer (some ⟨L, 6, none⟩)) rfl (by kernel_rfl) (by kernel_rfl) (by kernel_rfl) (fun _ _ _ h => h) (Or.inl ⟨by rfl, ?_⟩) hHeld ?_
    · intro W hSw
      go_simp
    try simp only [Act.put, ps]
    refine wpAnyH_take (i := 10) (oi := _) (v := .agg cp.toArray) rfl (by kernel_rfl) (by kernel_rfl) (by kernel_rfl) (fun _ _ _ h => h) (yieldsIf_load_mid (by rfl) 43 (.tmp 83) rfl L 6 rfl cp _ (fun W hW => HCR.out W hW.2.2) Tryz.underlying43 rfl hi1) hHeld ?_
    try simp only [Act.put, ps]
    rw [HCPL.out]
    refine wpAnyH_ready (rs := [11]) (by kernel_rfl) (by simp) ?_
    refine AllReadyH.cons (o := _) rfl (fun K hK => ?_) AllReadyH.nil
    refine step_mapF_put rfl _ _ _ 130 43 rfl Tryz.underlying130 mb n (digF op.marks) rfl (HC3.out.new (new_drew _)).marks (by unfold maxLen; omega) c (digV d.dig) rfl rfl hci ?_
    intro w5 hm5 hg5
    have HK5 : Aside (Keeps (· ≠ mb) w3 w5) := ((Keeps.refl _ w3).drew).trans (keeps_grown hg5 (· ≠ mb) (fun j hj => by obtain rfl := Option.some.inj hj; simp))
    have HM5 : Aside (MapF w5 mb (n + 1) (digF (upF op.marks c d.dig))) := by rw [← upF_dig]; exact hm5
    clear hm5 hg5
    have hpm : p ≠ mb := fun e => by
      obtain ⟨es, ck, hb⟩ := HC3.out.marks.block
      have := HC3.out.md
      rw [MdIn, e, hb] at this
      cases this
    have hrm : r ≠ mb := fun e => by
      obtain ⟨es, ck, hb⟩ := HC3.out.marks.block
      obtain ⟨cs, h1, _⟩ := HC3.out.rnd
      rw [e, hb] at h1
      cases h1
    have hLm : L ≠ mb := fun e => by have := HSS.out mb HSM.out; have := HLw.out; omega
    refine hK.out _ _ ⟨HC3.out.md.keeps HK5.out hpm, HC3.out.rnd.keeps HK5.out hrm, HC3.out.rc.keeps HK5.out hLm⟩ (fun hHeld => ?_)
    clear hK K
    try simp only [Act.put, ps]
    refine wpAnyH_done (by kernel_rfl) ?_ _
    clear hHeld
    go_wp2_with fail
    go_ret
    rw [HR.out, if_pos HCP.out]
    have HK0 : Aside (Keeps (· ≠ mb) w w5) := (keeps_of_new HN3.out _).trans HK5.out
    refine ⟨rfl, S, ⟨v, mark_fin HH.out HO.out HOV.out HSM.out HK0.out (by rw [← HC.out]; exact HM5.out) HD.out HRB.out HMBL.out⟩, HK0.out.mono (fun k _ hk e => hk (by rw [e]; exact HSM.out)), fun k hk => .inl hk, fun k hk => Nat.lt_of_lt_of_le (HSS.out k hk) HK0.out.size⟩
end Go.Proofs.YtfnekbfcndkjeaaGreatDoor
namespace Go.Proofs.YtfnekbfcndkjeaaGreatDoor
open Go.RowKit
set_option maxHeartbeats 4000000 in
set_option maxRecDepth 100000 in
theorem reveals_none {S : Nat → Prop} {n : Nat} {w : World} {p : Nat} {v : ModV} {st : MSt} (h : ModIn S n w p v st) (hS : ∀ k, S k → k < w.heap.size) (hno : st.opn = none) (rv : RecV) :
    Calls Tryz.prog 43 #[.pointer (some ⟨p, 0, none⟩), .agg (recCells rv)] w (MStep S n w p st none) := by
  obtain ⟨L, hL⟩ : ∃ x, x = w.heap.size := ⟨_, rfl⟩
  obtain ⟨w0, hw0⟩ : ∃ z, z = w.alloc (.cells (recCells rv) 49) := ⟨_, rfl⟩
  have HN0 : Aside (Below w.heap.size w w0) := by rw [hw0]; exact new_alloc _ _
  have HR0 : Aside (RecIn w0 L rv) := by rw [hw0, hL]; exact RecIn.box _ _
  have HH := aside h
  have HSS := aside hS
  have HNO := aside hno
  have hi0 : (Tryz.prog.info? 49).map (·.size) = some (recCells rv).size := by rw [recCells_size]; kernel_rfl
  clear h hS hno
  go_enter Tryz.func43, Tryz.ntmps43
  go_upto_region 1 with fail
  rw [← hw0, ← hL]
  clear hw0 hL
  go_wp2_with (guard_target =~ wpList _ _ _ _ _ _; refine wpList_load_row rfl _ _ rfl L rfl _ (recCells rv) (0, 0) _ HR0.out Tryz.underlying49 rfl hi0 ?_)
  refine (gone_none (HH.out.new HN0.out) HNO.out rv).mono ?_
  rintro e w1 ⟨rfl, hb1⟩
  have HN1 := aside (HN0.out.trans (hb1.mono HN0.out.size))
  clear hb1 hi0
  go_wp2_with fail
  go_ret
  exact step_none HH.out HSS.out HN1.out
theorem bid_fin {S : Nat → Prop} {n : Nat} {w wz : World} {p r bb : Nat} {v : ModV} {st : MSt} {op : Opn} {d : RecD} (h : ModIn S n w p v st) (ho : st.opn = some op) (hov : v.opn = .pointer (some ⟨r, 0, none⟩)) (hK : Keeps (· ≠ bb) w wz)
    (hM : MapF wz bb (n + 1) (bidF (upF op.bids d.carrier d.bid))) (hmb : ∃ cs, w.heap[r]? = some (.cells cs 133 (0, 0)) ∧ cs[50]? = some (.map (some bb))) (hmap : ∃ es ck, w.heap[bb]? = some (.map es ck)) : ModIn S (n + 1) wz p v (revealsS st op d) := by
  obtain ⟨es, ck, hmh⟩ := hmap
  have hne : ∀ {k : Nat} {cs : Array Value} {T : TypeId} {fr : Nat × Nat}, w.heap[k]? = some (.cells cs T fr) → k ≠ bb := fun hk e => by rw [e, hmh] at hk; cases hk
  have hopn := h.opn
  rw [ho] at hopn
  obtain ⟨r', mb', bb', e, h1, h2, h3, h4, h5, h6, h7, h8⟩ := hopn
  obtain rfl : r' = r := by rw [hov] at e; injection e with e; injection e with e; injection e with e; exact e.symm
  obtain ⟨cs, hc, hc50⟩ := hmb
  obtain rfl : bb' = bb := by
    have := h5.bids
    rw [cell_whole hc, hc50] at this
    injection this with this; injection this with this; injection this with this; exact this.symm
  refine ⟨h.here.keeps hK (hne h.here), h.own, h.scn, ?_, ?_, ?_, ?_, ?_, h.ap1, h.ap2, h.ap3, ?_, h.tick, h.ended, Nat.le_trans h.nout (Nat.le_succ n), h.sok⟩
  · exact h.lots.keep hK (fun k hk => by obtain ⟨cur, hh⟩ := h.lots.block k hk; exact hne hh)
  · exact h.owners.keep hK (fun k hk => by obtain ⟨cur, hh⟩ := h.owners.block k hk; exact hne hh)
  · exact h.states.keep hK (fun k hk => by obtain ⟨cur, hh⟩ := h.states.block k hk; exact hne hh)
  · exact h.outs.keep hK (fun k hk => by obtain ⟨cur, hh⟩ := h.outs.block k hk; exact hne hh)
  · exact h.barred.keep hK (fun k hk => by obtain ⟨cur, hh⟩ := h.barred.block k hk; exact hne hh)
  exact ⟨r', mb', bb', e, h1, h2, h3, h4, (h5.same (o' := { op with bids := upF op.bids d.carrier d.bid }) rfl rfl rfl).keeps hK (hne hc), (h6.keeps hK h4).mono (Nat.le_succ n), hM, h8⟩
theorem bid_look (f : Int → Option Int) (c : Int) : ∃ y : Int, (bidF f c).getD (.int .u64 0) = .int .u64 y ∧ ∀ b, f c = some b → y = b := by
  cases h : f c with
  | none => exact ⟨0, by simp [bidF, h], fun b hb => by cases hb⟩
  | some b => exact ⟨b, by simp [bidF, h], fun b' hb => by injection hb⟩
set_option maxHeartbeats 4000000 in
set_option maxRecDepth 100000 in
theorem reveals_handle (opf : List Int → RecD → Bool) {S : Nat → Prop} {n : Nat} {w : World} {p : Nat} {v : ModV} {st : MSt} (h : ModIn S n w p v st) (hS : ∀ k, S k → k < w.heap.size) (hn : n < 1000000000) (hwf : st.Wf) (op : Opn) (hop : st.opn = some op) (rv : RecV) (d : RecD) (hrv : ∃ b l ow, rv = d.toV b l ow) (hd : RdOk d) (hsc : st.scene.scheme ≠ 0) :
    Calls Tryz.prog 43 #[.pointer (some ⟨p, 0, none⟩), .agg (recCells rv)] w (MStep S n w p st (if RevealsP opf st op d then some (revealsS st op d) else none)) := by
  obtain ⟨R, hR⟩ : ∃ R, R = (if RevealsP opf st op d then some (revealsS st op d) else none) := ⟨_, rfl⟩
  rw [← hR]
  have HR := aside hR
  clear hR
  obtain ⟨L, hL⟩ : ∃ x, x = w.heap.size := ⟨_, rfl⟩
  obtain ⟨w0, hw0⟩ : ∃ z, z = w.alloc (.cells (recCells rv) 49) := ⟨_, rfl⟩
  have HN0 : Aside (Below w.heap.size w w0) := by rw [hw0]; exact new_alloc _ _
  have HR0 : RecIn w0 L rv := by rw [hw0, hL]; exact RecIn.box _ _
  have HLw : Aside (w.heap.size ≤ L) := Nat.le_of_eq hL.symm
  have hrr : rv.round = d.round := by obtain ⟨b, l, ow, e⟩ := hrv; rw [e]; rfl
  have hrt : rv.tick = d.tick := by obtain ⟨b, l, ow, e⟩ := hrv; rw [e]; rfl
  have hrc : rv.carrier = d.carrier := by obtain ⟨b, l, ow, e⟩ := hrv; rw [e]; rfl
  have hrb : rv.bid = d.bid := by obtain ⟨b, l, ow, e⟩ := hrv; rw [e]; rfl
  have HRBD := aside hrb
  have hrd : ∀ k, rv.dig k = d.dig.getD k 0 := by obtain ⟨b, l, ow, e⟩ := hrv; rw [e]; exact fun k => rfl
  have HRD := aside hrd
  have HH := aside h
  have HSS := aside hS
  have HWF := aside hwf
  have HD := aside hd
  have HO := aside hop
  have HSCH := aside hsc
  obtain ⟨r, mb, bb, hov, hsr, hsm, hsb, hmb, hrnd, hmm, hbm, hlen⟩ : OpnAt S n w v.opn (some op) := by rw [← hop]; exact h.opn
  have HOV := aside hov
  have HSM := aside hsm
  have HSB := aside hsb
  have HLEN := aside hlen
  have HMB := aside hmb
  have HRB : Aside (∃ cs, w.heap[r]? = some (.cells cs 133 (0, 0)) ∧ cs[50]? = some (.map (some bb))) := by obtain ⟨cs, k0, _, _, _, _, k50⟩ := hrnd; exact ⟨cs, k0, k50⟩
  have HRB0 : Aside (∃ cs, w.heap[r]? = some (.cells cs 133 (0, 0)) ∧ cs[49]? = some (.map (some mb))) := by obtain ⟨cs, k0, _, _, _, k49, _⟩ := hrnd; exact ⟨cs, k0, k49⟩
  have HMBL : Aside (∃ es ck, w.heap[bb]? = some (.map es ck)) := hbm.block
  have HC0 : Aside (CoAt n w0 p L r mb bb v op rv) := ⟨h.here.new HN0.out, hrnd.keeps (keeps_of_new HN0.out (fun _ => True)) trivial, hmm.new HN0.out, hbm.new HN0.out, HR0⟩
  have HG0 := aside (gone_some (h.new HN0.out) hwf op hop rv (by rw [hrt]; exact hd.tick))
  have hi0 : (Tryz.prog.info? 49).map (·.size) = some (recCells rv).size := by rw [recCells_size]; kernel_rfl
  obtain ⟨c, hc⟩ : ∃ c, c = d.carrier := ⟨_, rfl⟩
  have HC := aside hc
  have HRC : Aside (rv.carrier = c) := by rw [hc]; exact hrc
  have hc7 : 0 ≤ c ∧ c ≤ 7 := by rw [hc]; exact hd.carrier
  have hlot := (hwf.opn op hop).1
  have hlens := hwf.lens
  have hnl := hwf.nlots
  clear h hS hwf hop hrnd hmm hbm hlen hov hsr hsm hsb hmb hd hrv hrd hrc hc hrb hsc
  obtain ⟨g, hg⟩ : ∃ g, g = d.tick - op.tick := ⟨_, rfl⟩
  have HGE := aside hg
  rw [hrr, hrt, ← hg] at HG0
  obtain ⟨lt, hlt⟩ : ∃ q : Nat, op.lot = q := Int.eq_ofNat_of_zero_le hlot.1
  have HLT := aside hlt
  have hlt2 : lt < st.scene.lots.length := by omega
  have HLT2 := aside hlt2
  clear hg hlt hlot HR0 hlt2
  go_enter Tryz.func43, Tryz.ntmps43
  go_upto_region 1 with fail
  rw [← hw0, ← hL]
  clear hw0 hL
  go_wp2_with (guard_target =~ wpList _ _ _ _ _ _; refine wpList_load_row rfl _ _ rfl L rfl _ (recCells rv) (0, 0) _ HC0.out.rc Tryz.underlying49 rfl hi0 ?_)
  refine HG0.out.mono ?_
  rintro e w1 ⟨rfl, hb1⟩
  have HN1 := aside (HN0.out.trans (hb1.mono HN0.out.size))
  have HC1 := aside (HC0.out.new hb1)
  clear hb1 hi0 HC0 HG0
  by_cases hxy : d.round = op.round
  case neg =>
    have HNP : Aside (¬ RevealsP opf st op d) := fun h => hxy h.1
    rw [if_neg hxy]
    clear hxy hrr hrt
    go_wp2_with fail
    go_ret
    rw [HR.out, if_neg HNP.out]
    exact step_none HH.out HSS.out HN1.out
  case pos =>
  have HXY := aside hxy
  rw [if_pos hxy]
  clear hxy hrr hrt
  obtain ⟨cm, hcm⟩ : ∃ x, x = st.scene.commit := ⟨_, rfl⟩
  have c44 : w1.cell? ⟨p, 44, none⟩ = some (.int .i64 cm) := by have := HC1.out.md.rcommit; rw [HH.out.commit, ← hcm] at this; exact this
  have HCM := aside hcm
  have HDUE := aside (due_any (HH.out.new HN1.out) HWF.out)
  obtain ⟨du, hdu⟩ : ∃ x, x = st.due := ⟨_, rfl⟩
  rw [← hdu] at HDUE
  have HDU := aside hdu
  clear hcm hdu
  by_cases h1 : g < cm
  · have HNP : Aside (¬ RevealsP opf st op d) := fun h => by have := h.2.1; rw [← HGE.out, ← HCM.out] at this; omega
    go_wp2_with fail
    go_ret
    rw [HR.out, if_neg HNP.out]
    exact step_none HH.out HSS.out HN1.out
  have H1 := aside h1
  have hb1 : decide (g < cm) = false := by simpa using h1
  go_wp2_with fail
  refine HDUE.out.mono ?_
  rintro e w2 ⟨rfl, q2, hw2⟩
  have HN2 : Aside (Below w.heap.size w w2) := by rw [hw2]; exact below_drewN HN1.out q2
  have HC2 : Aside (CoAt n w2 p L r mb bb v op rv) := by rw [hw2]; exact HC1.out.new (new_drewN _ _)
  clear hw2 c44 HC1 h1 hb1
  by_cases h2 : du ≤ g
  · have HNP : Aside (¬ RevealsP opf st op d) := fun h => by have := h.2.2.1; rw [← HGE.out, ← HDU.out] at this; omega
    go_wp2_with fail
    go_ret
    rw [HR.out, if_neg HNP.out]
    exact step_none HH.out HSS.out HN2.out
  have H2 := aside h2
  obtain ⟨ya, hya, hys, hy1, hyl⟩ := dig_look op.marks HLEN.out c
  obtain ⟨has, hhas⟩ : ∃ b, b = (op.marks c).isSome := ⟨_, rfl⟩
  have hci : I64 c := ⟨by omega, by omega⟩
  have HLK : Aside (∀ W, CoAt n W p L r mb bb v op rv → (Instr.lookup 130 (.map (some mb)) (.int .i64 c) true).run Tryz.prog W = .ok (.tuple #[.agg ya, .bool has]) W) := fun W hW => by
    rw [← hya, hhas, ← has_look op.marks digV c]
    exact run_look_ok W 130 43 Tryz.underlying130 (zeroDig W) mb n _ hW.marks c hci
  obtain ⟨yb, hyb, _⟩ := bid_look op.bids c
  obtain ⟨twice, htw⟩ : ∃ b, b = (op.bids c).isSome := ⟨_, rfl⟩
  have HLB : Aside (∀ W, CoAt n W p L r mb bb v op rv → (Instr.lookup 131 (.map (some bb)) (.int .i64 c) true).run Tryz.prog W = .ok (.tuple #[.int .u64 yb, .bool twice]) W) := fun W hW => by
    rw [← hyb, htw, ← has_look op.bids (Value.int .u64) c]
    exact run_look_ok W 131 44 Tryz.underlying131 (zeroU W) bb n _ hW.bids c hci
  have HYS := aside hys
  have HY1 := aside hy1
  have HHAS := aside hhas
  have HTW := aside htw
  clear hya hys hy1 hyl hhas hyb htw
  go_upto_region 4 with fail
  clear h2
  refine wp_region_held_drew (S := fun W => CoAt n W p L r mb bb v op rv) (by kernel_rfl) (HC2.out.new (new_drew _)) (fun hHeld => ?_)
  refine wpAnyH_take (i := 0) (oi := _) (v := .pointer (some ⟨p, 0, none⟩)) rfl (by kernel_rfl) (by kernel_rfl) (by kernel_rfl) (fun _ _ _ h => h) (Or.inl ⟨by rfl, ?_⟩) hHeld ?_
  · intro W hSw
    go_simp
  try simp only [Act.put, ps]
  refine wpAnyH_take (i := 1) (oi := _) (v := .pointer (some ⟨p, 0, none⟩)) rfl (by kernel_rfl) (by kernel_rfl) (by kernel_rfl) (fun _ _ _ h => h) (Or.inl ⟨by rfl, ?_⟩) hHeld ?_
  · intro W hSw
    go_simp
  try simp only [Act.put, ps]
  refine wpAnyH_take (i := 2) (oi := _) (v := .pointer (some ⟨p, 52, none⟩)) rfl (by kernel_rfl) (by kernel_rfl) (by kernel_rfl) (fun _ _ _ h => h) (Or.inl ⟨by rfl, ?_⟩) hHeld ?_
  · intro W hSw
    go_simp
  try simp only [Act.put, ps]
  refine wpAnyH_take (i := 3) (oi := _) (v := .pointer (some ⟨r, 0, none⟩)) rfl (by kernel_rfl) (by kernel_rfl) (by kernel_rfl) (fun _ _ _ h => h) (Or.inl ⟨by rfl, ?_⟩) hHeld ?_
  · intro W hSw
    have c := hSw.md.opn
    rw [HOV.out] at c
    go_simp
  try simp only [Act.put, ps]
  refine wpAnyH_take (i := 4) (oi := _) (v := .pointer (some ⟨r, 0, none⟩)) rfl (by kernel_rfl) (by kernel_rfl) (by kernel_rfl) (fun _ _ _ h => h) (Or.inl ⟨by rfl, ?_⟩) hHeld ?_
  · intro W hSw
    go_simp
  try simp only [Act.put, ps]
  refine wpAnyH_take (i := 5) (oi := _) (v := .pointer (some ⟨r, 49, none⟩)) rfl (by kernel_rfl) (by kernel_rfl) (by kernel_rfl) (fun _ _ _ h => h) (Or.inl ⟨by rfl, ?_⟩) hHeld ?_
  · intro W hSw
    go_simp
  try simp only [Act.put, ps]
  refine wpAnyH_take (i := 6) (oi := _) (v := .map (some mb)) rfl (by kernel_rfl) (by kernel_rfl) (by kernel_rfl) (fun _ _ _ h => h) (Or.inl ⟨by rfl, ?_⟩) hHeld ?_
  · intro W hSw
    have c := hSw.rnd.marks
    go_simp
  try simp only [Act.put, ps]
  refine wpAnyH_take (i := 7) (oi := _) (v := .pointer (some ⟨L, 3, none⟩)) rfl (by kernel_rfl) (by kernel_rfl) (by kernel_rfl) (fun _ _ _ h => h) (Or.inl ⟨by rfl, ?_⟩) hHeld ?_
  · intro W hSw
    go_simp
  try simp only [Act.put, ps]
  refine wpAnyH_take (i := 8) (oi := _) (v := .int .i64 c) rfl (by kernel_rfl) (by kernel_rfl) (by kernel_rfl) (fun _ _ _ h => h) (Or.inl ⟨by rfl, ?_⟩) hHeld ?_
  · intro W hSw
    have e := hSw.rc.carrier
    rw [HRC.out] at e
    go_simp
  try simp only [Act.put, ps]
  refine wpAnyH_take (i := 9) (oi := _) (v := .tuple #[.agg ya, .bool has]) rfl (by kernel_rfl) (by kernel_rfl) (by kernel_rfl) (fun _ _ _ h => h) (Or.inl ⟨by rfl, ?_⟩) hHeld ?_
  · intro W hSw
    have hl := HLK.out W hSw
    go_simp
  try simp only [Act.put, ps]
  refine wpAnyH_take (i := 10) (oi := _) (v := .tuple #[.agg ya, .bool has]) rfl (by kernel_rfl) (by kernel_rfl) (by kernel_rfl) (fun _ _ _ h => h) (Or.inl ⟨by rfl, ?_⟩) hHeld ?_
  · intro W hSw
    go_simp
  try simp only [Act.put, ps]
  refine wpAnyH_take (i := 11) (oi := _) (v := .agg ya) rfl (by kernel_rfl) (by kernel_rfl) (by kernel_rfl) (fun _ _ _ h => h) (Or.inl ⟨by rfl, ?_⟩) hHeld ?_
  · intro W hSw
    go_simp
  try simp only [Act.put, ps]
  refine wpAnyH_take (i := 12) (oi := _) (v := .bool has) rfl (by kernel_rfl) (by kernel_rfl) (by kernel_rfl) (fun _ _ _ h => h) (Or.inl ⟨by rfl, ?_⟩) hHeld ?_
  · intro W hSw
    go_simp
  try simp only [Act.put, ps]
  refine wpAnyH_ready (rs := [13]) (by kernel_rfl) (by simp) ?_
  refine AllReadyH.cons (o := _) rfl (fun K hK => ?_) AllReadyH.nil
  go_simp
  refine hK.out _ (w2.drew.alloc (.cells zDig 43)) (HC2.out.new (new_trans (new_drew w2) (new_alloc _ _))) (fun hHeld => ?_)
  clear hK K
  try simp only [Act.put, ps]
  refine wpAnyH_ready (rs := [14]) (by kernel_rfl) (by simp) ?_
  refine AllReadyH.cons (o := _) rfl (fun K hK => ?_) AllReadyH.nil
  refine step_store_by rfl 43 _ _ rfl (.pointer (some ⟨w2.heap.size, 0, none⟩)) (.agg ya) rfl rfl (store_dig w2.drew ya HYS.out HY1.out) ?_
  obtain ⟨w3, hw3⟩ : ∃ z, z = w2.drew.alloc (.cells ya 43) := ⟨_, rfl⟩
  obtain ⟨D, hDD⟩ : ∃ x, x = w2.heap.size := ⟨_, rfl⟩
  have HB3 : Aside (Below w2.heap.size w2 w3) := by rw [hw3]; exact new_trans (new_drew w2) (new_alloc _ _)
  have HD3 : Aside (w3.heap[D]? = some (.cells ya 43 (0, 0))) := by rw [hw3, hDD]; exact heap_new _ _
  rw [← hw3, ← hDD]
  clear hw3 hDD
  refine hK.out _ _ (HC2.out.new HB3.out) (fun hHeld => ?_)
  clear hK K
  try simp only [Act.put, ps]
  refine wpAnyH_take (i := 15) (oi := _) (v := .bool has) rfl (by kernel_rfl) (by kernel_rfl) (by kernel_rfl) (fun _ _ _ h => h) (Or.inl ⟨by rfl, ?_⟩) hHeld ?_
  · intro W hSw
    go_simp
  try simp only [Act.put, ps]
  refine wpAnyH_done (by kernel_rfl) ?_ _
  have HC3 := aside (HC2.out.new HB3.out)
  have HN3 := aside (HN2.out.trans (HB3.out.mono HN2.out.size))
  clear HC2 hHeld
  go_upto_region 5 with fail
  refine wp_region_held_drew (S := fun W => CoAt n W p L r mb bb v op rv) (by kernel_rfl) (HC3.out.new (new_drew _)) (fun hHeld => ?_)
  refine wpAnyH_take (i := 0) (oi := _) (v := .pointer (some ⟨p, 0, none⟩)) rfl (by kernel_rfl) (by kernel_rfl) (by kernel_rfl) (fun _ _ _ h => h) (Or.inl ⟨by rfl, ?_⟩) hHeld ?_
  · intro W hSw
    go_simp
  try simp only [Act.put, ps]
  refine wpAnyH_take (i := 1) (oi := _) (v := .pointer (some ⟨p, 0, none⟩)) rfl (by kernel_rfl) (by kernel_rfl) (by kernel_rfl) (fun _ _ _ h => h) (Or.inl ⟨by rfl, ?_⟩) hHeld ?_
  · intro W hSw
    go_simp
  try simp only [Act.put, ps]
  refine wpAnyH_take (i := 2) (oi := _) (v := .pointer (some ⟨p, 52, none⟩)) rfl (by kernel_rfl) (by kernel_rfl) (by kernel_rfl) (fun _ _ _ h => h) (Or.inl ⟨by rfl, ?_⟩) hHeld ?_
  · intro W hSw
    go_simp
  try simp only [Act.put, ps]
  refine wpAnyH_take (i := 3) (oi := _) (v := .pointer (some ⟨r, 0, none⟩)) rfl (by kernel_rfl) (by kernel_rfl) (by kernel_rfl) (fun _ _ _ h => h) (Or.inl ⟨by rfl, ?_⟩) hHeld ?_
  · intro W hSw
    have c := hSw.md.opn
    rw [HOV.out] at c
    go_simp
  try simp only [Act.put, ps]
  refine wpAnyH_take (i := 4) (oi := _) (v := .pointer (some ⟨r, 0, none⟩)) rfl (by kernel_rfl) (by kernel_rfl) (by kernel_rfl) (fun _ _ _ h => h) (Or.inl ⟨by rfl, ?_⟩) hHeld ?_
  · intro W hSw
    go_simp
  try simp only [Act.put, ps]
  refine wpAnyH_take (i := 5) (oi := _) (v := .pointer (some ⟨r, 50, none⟩)) rfl (by kernel_rfl) (by kernel_rfl) (by kernel_rfl) (fun _ _ _ h => h) (Or.inl ⟨by rfl, ?_⟩) hHeld ?_
  · intro W hSw
    go_simp
  try simp only [Act.put, ps]
  refine wpAnyH_take (i := 6) (oi := _) (v := .map (some bb)) rfl (by kernel_rfl) (by kernel_rfl) (by kernel_rfl) (fun _ _ _ h => h) (Or.inl ⟨by rfl, ?_⟩) hHeld ?_
  · intro W hSw
    have c := hSw.rnd.bids
    go_simp
  try simp only [Act.put, ps]
  refine wpAnyH_take (i := 7) (oi := _) (v := .pointer (some ⟨L, 3, none⟩)) rfl (by kernel_rfl) (by kernel_rfl) (by kernel_rfl) (fun _ _ _ h => h) (Or.inl ⟨by rfl, ?_⟩) hHeld ?_
  · intro W hSw
    go_simp
  try simp only [Act.put, ps]
  refine wpAnyH_take (i := 8) (oi := _) (v := .int .i64 c) rfl (by kernel_rfl) (by kernel_rfl) (by kernel_rfl) (fun _ _ _ h => h) (Or.inl ⟨by rfl, ?_⟩) hHeld ?_
  · intro W hSw
    have e := hSw.rc.carrier
    rw [HRC.out] at e
    go_simp
  try simp only [Act.put, ps]
  refine wpAnyH_take (i := 9) (oi := _) (v := .tuple #[.int .u64 yb, .bool twice]) rfl (by kernel_rfl) (by kernel_rfl) (by kernel_rfl) (fun _ _ _ h => h) (Or.inl ⟨by rfl, ?_⟩) hHeld ?_
  · intro W hSw
    have hl := HLB.out W hSw
    go_simp
  try simp only [Act.put, ps]
  refine wpAnyH_take (i := 10) (oi := _) (v := .tuple #[.int .u64 yb, .bool twice]) rfl (by kernel_rfl) (by kernel_rfl) (by kernel_rfl) (fun _ _ _ h => h) (Or.inl ⟨by rfl, ?_⟩) hHeld ?_
  · intro W hSw
    go_simp
  try simp only [Act.put, ps]
  refine wpAnyH_take (i := 11) (oi := _) (v := .int .u64 yb) rfl (by kernel_rfl) (by kernel_rfl) (by kernel_rfl) (fun _ _ _ h => h) (Or.inl ⟨by rfl, ?_⟩) hHeld ?_
  · intro W hSw
    go_simp
  try simp only [Act.put, ps]
  refine wpAnyH_take (i := 12) (oi := _) (v := .bool twice) rfl (by kernel_rfl) (by kernel_rfl) (by kernel_rfl) (fun _ _ _ h => h) (Or.inl ⟨by rfl, ?_⟩) hHeld ?_
  · intro W hSw
    go_simp
  try simp only [Act.put, ps]
  refine wpAnyH_take (i := 13) (oi := _) (v := .int .u64 yb) rfl (by kernel_rfl) (by kernel_rfl) (by kernel_rfl) (fun _ _ _ h => h) (Or.inl ⟨by rfl, ?_⟩) hHeld ?_
  · intro W hSw
    go_simp
  try simp only [Act.put, ps]
  refine wpAnyH_take (i := 14) (oi := _) (v := .bool twice) rfl (by kernel_rfl) (by kernel_rfl) (by kernel_rfl) (fun _ _ _ h => h) (Or.inl ⟨by rfl, ?_⟩) hHeld ?_
  · intro W hSw
    go_simp
  try simp only [Act.put, ps]
  refine wpAnyH_done (by kernel_rfl) ?_ _
  clear hHeld
  have HN4 : Aside (Below w.heap.size w w3.drew) := HN3.out.drew
  obtain ⟨w4, hw4⟩ : ∃ z, z = w3.drew := ⟨_, rfl⟩
  have HC4 : Aside (CoAt n w4 p L r mb bb v op rv) := by rw [hw4]; exact HC3.out.new (new_drew _)
  have HN4 : Aside (Below w.heap.size w w4) := by rw [hw4]; exact HN3.out.drew
  rw [← hw4]
  clear hw4 HC3 HN3
  by_cases hok : has = true ∧ twice = false
  case neg =>
    have HNP : Aside (¬ RevealsP opf st op d) := fun h => hok ⟨by rw [HHAS.out, HC.out]; exact h.2.2.2.1, by
      have := h.2.2.2.2.1
      rw [HTW.out, HC.out]
      cases hm : op.bids d.carrier with
      | none => rfl
      | some l => rw [hm] at this; cases this⟩
    cases has with
    | false =>
      go_wp2_with fail
      go_ret
      rw [HR.out, if_neg HNP.out]
      exact step_none HH.out HSS.out HN4.out
    | true =>
    cases twice with
    | true =>
      go_wp2_with fail
      go_ret
      rw [HR.out, if_neg HNP.out]
      exact step_none HH.out HSS.out HN4.out
    | false => exact absurd ⟨rfl, rfl⟩ hok
  case pos =>
  obtain ⟨hh1, hh2⟩ := hok
  have hnb : (op.bids d.carrier).isNone = true := by
    have := HTW.out
    rw [hh2, HC.out] at this
    cases hm : op.bids d.carrier with
    | none => rfl
    | some l => rw [hm] at this; cases this
  have HRP : Aside (RevealsP opf st op d) := ⟨HXY.out, by rw [← HGE.out, ← HCM.out]; have := H1.out; omega, by rw [← HGE.out, ← HDU.out]; have := H2.out; omega, by rw [← HC.out, ← HHAS.out]; exact hh1, hnb, fun h => absurd h HSCH.out⟩
  clear hnb
  subst hh1 hh2
  obtain ⟨sc, hsce⟩ : ∃ x, x = st.scene.scheme := ⟨_, rfl⟩
  have c46 : w4.cell? ⟨p, 46, none⟩ = some (.int .i64 sc) := by have := HC4.out.md.rscheme; rw [HH.out.scheme, ← hsce] at this; exact this
  have hsb : (sc == 0) = false := by rw [hsce]; simpa using HSCH.out
  clear hsce
  go_upto_region 8 with fail
  go_quiet (fail)
  obtain ⟨w5, hw5⟩ : ∃ z, z = w4.drewN nq := ⟨_, rfl⟩
  have HC5 : Aside (CoAt n w5 p L r mb bb v op rv) := by rw [hw5]; exact HC4.out.new (new_drewN _ _)
  have HN5 : Aside (Below w.heap.size w w5) := by rw [hw5]; exact below_drewN HN4.out _
  rw [← hw5]
  clear hw5 HC4 HN4 c46 hsb
  go_upto_region 10 with fail
  refine wp_region_held_drew (S := fun W => MdIn W p v ∧ RndIn W r op mb bb ∧ RecIn W L rv) (by kernel_rfl) ((⟨(HC5.out.new (new_drew _)).md, (HC5.out.new (new_drew _)).rnd, (HC5.out.new (new_drew _)).rc⟩ : MdIn w5.drew p v ∧ RndIn w5.drew r op mb bb ∧ RecIn w5.drew L rv)) (fun hHeld => ?_)
  refine wpAnyH_take (i := 0) (oi := _) (v := .pointer (some ⟨p, 0, none⟩)) rfl (by kernel_rfl) (by kernel_rfl) (by kernel_rfl) (fun _ _ _ h => h) (Or.inl ⟨by rfl, ?_⟩) hHeld ?_
  · intro W hSw
    go_simp
  try simp only [Act.put, ps]
  refine wpAnyH_take (i := 1) (oi := _) (v := .pointer (some ⟨p, 0, none⟩)) rfl (by kernel_rfl) (by kernel_rfl) (by kernel_rfl) (fun _ _ _ h => h) (Or.inl ⟨by rfl, ?_⟩) hHeld ?_
  · intro W hSw
    go_simp
  try simp only [Act.put, ps]
  refine wpAnyH_take (i := 2) (oi := _) (v := .pointer (some ⟨p, 52, none⟩)) rfl (by kernel_rfl) (by kernel_rfl) (by kernel_rfl) (fun _ _ _ h => h) (Or.inl ⟨by rfl, ?_⟩) hHeld ?_
  · intro W hSw
    go_simp
  try simp only [Act.put, ps]
  refine wpAnyH_take (i := 3) (oi := _) (v := .pointer (some ⟨r, 0, none⟩)) rfl (by kernel_rfl) (by kernel_rfl) (by kernel_rfl) (fun _ _ _ h => h) (Or.inl ⟨by rfl, ?_⟩) hHeld ?_
  · intro W hSw
    have c := hSw.1.opn
    rw [HOV.out] at c
    go_simp
  try simp only [Act.put, ps]
  refine wpAnyH_take (i := 4) (oi := _) (v := .pointer (some ⟨r, 0, none⟩)) rfl (by kernel_rfl) (by kernel_rfl) (by kernel_rfl) (fun _ _ _ h => h) (Or.inl ⟨by rfl, ?_⟩) hHeld ?_
  · intro W hSw
    go_simp
  try simp only [Act.put, ps]
  refine wpAnyH_take (i := 5) (oi := _) (v := .pointer (some ⟨r, 50, none⟩)) rfl (by kernel_rfl) (by kernel_rfl) (by kernel_rfl) (fun _ _ _ h => h) (Or.inl ⟨by rfl, ?_⟩) hHeld ?_
  · intro W hSw
    go_simp
  try simp only [Act.put, ps]
  refine wpAnyH_take (i := 6) (oi := _) (v := .map (some bb)) rfl (by kernel_rfl) (by kernel_rfl) (by kernel_rfl) (fun _ _ _ h => h) (Or.inl ⟨by rfl, ?_⟩) hHeld ?_
  · intro W hSw
    have c := hSw.2.1.bids
    go_simp
  try simp only [Act.put, ps]
  refine wpAnyH_take (i := 7) (oi := _) (v := .pointer (some ⟨L, 3, none⟩)) rfl (by kernel_rfl) (by kernel_rfl) (by kernel_rfl) (fun _ _ _ h => h) (Or.inl ⟨by rfl, ?_⟩) hHeld ?_
  · intro W hSw
    go_simp
  try simp only [Act.put, ps]
  refine wpAnyH_take (i := 8) (oi := _) (v := .int .i64 c) rfl (by kernel_rfl) (by kernel_rfl) (by kernel_rfl) (fun _ _ _ h => h) (Or.inl ⟨by rfl, ?_⟩) hHeld ?_
  · intro W hSw
    have e := hSw.2.2.carrier
    rw [HRC.out] at e
    go_simp
  try simp only [Act.put, ps]
  refine wpAnyH_take (i := 9) (oi := _) (v := .pointer (some ⟨L, 38, none⟩)) rfl (by kernel_rfl) (by kernel_rfl) (by kernel_rfl) (fun _ _ _ h => h) (Or.inl ⟨by rfl, ?_⟩) hHeld ?_
  · intro W hSw
    go_simp
  try simp only [Act.put, ps]
  refine wpAnyH_take (i := 10) (oi := _) (v := .int .u64 d.bid) rfl (by kernel_rfl) (by kernel_rfl) (by kernel_rfl) (fun _ _ _ h => h) (Or.inl ⟨by rfl, ?_⟩) hHeld ?_
  · intro W hSw
    have e := hSw.2.2.bid
    rw [HRBD.out] at e
    go_simp
  try simp only [Act.put, ps]
  refine wpAnyH_ready (rs := [11]) (by kernel_rfl) (by simp) ?_
  refine AllReadyH.cons (o := _) rfl (fun K hK => ?_) AllReadyH.nil
  refine step_mapF_put rfl _ _ _ 131 44 rfl Tryz.underlying131 bb n (bidF op.bids) rfl (HC5.out.new (new_drew _)).bids (by unfold maxLen; omega) c (.int .u64 d.bid) rfl rfl hci ?_
  intro w6 hm6 hg6
  have HK6 : Aside (Keeps (· ≠ bb) w5 w6) := ((Keeps.refl _ w5).drew).trans (keeps_grown hg6 (· ≠ bb) (fun j hj => by obtain rfl := Option.some.inj hj; simp))
  have HM6 : Aside (MapF w6 bb (n + 1) (bidF (upF op.bids c d.bid))) := by rw [← upF_bid]; exact hm6
  clear hm6 hg6
  have hpm : p ≠ bb := fun e => by
    obtain ⟨es, ck, hb⟩ := HC5.out.bids.block
    have := HC5.out.md
    rw [MdIn, e, hb] at this
    cases this
  have hrm : r ≠ bb := fun e => by
    obtain ⟨es, ck, hb⟩ := HC5.out.bids.block
    obtain ⟨cs, h1, _⟩ := HC5.out.rnd
    rw [e, hb] at h1
    cases h1
  have hLm : L ≠ bb := fun e => by have := HSS.out bb HSB.out; have := HLw.out; omega
  refine hK.out _ _ ⟨HC5.out.md.keeps HK6.out hpm, HC5.out.rnd.keeps HK6.out hrm, HC5.out.rc.keeps HK6.out hLm⟩ (fun hHeld => ?_)
  clear hK K
  try simp only [Act.put, ps]
  refine wpAnyH_done (by kernel_rfl) ?_ _
  clear hHeld
  go_wp2_with fail
  go_ret
  rw [HR.out, if_pos HRP.out]
  have HK0 : Aside (Keeps (· ≠ bb) w w6) := (keeps_of_new HN5.out _).trans HK6.out
  exact ⟨rfl, S, ⟨v, bid_fin HH.out HO.out HOV.out HK0.out (by rw [← HC.out]; exact HM6.out) HRB.out HMBL.out⟩, HK0.out.mono (fun k _ hk e => hk (by rw [e]; exact HSB.out)), fun k hk => .inl hk, fun k hk => Nat.lt_of_lt_of_le (HSS.out k hk) HK0.out.size⟩
end Go.Proofs.YtfnekbfcndkjeaaGreatDoor
