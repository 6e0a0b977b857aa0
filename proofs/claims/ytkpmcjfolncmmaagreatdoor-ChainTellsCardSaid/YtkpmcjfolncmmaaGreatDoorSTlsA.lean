/- For ChainTells: (*Log).Last; a row of records whose rows lie anywhere; two records in an array. -/
import Derived.Test.YtkpmcjfolncmmaaGreatDoorSRoot
import Derived.OrdersHeld
import Derived.StillTail
import Derived.Deep.RegionHeld
import Derived.Test.YtkpmcjfolncmmaaGreatDoorSTls0
import Derived.Test.YtkpmcjfolncmmaaGreatDoorSLay1
import Derived.Test.YtkpmcjfolncmmaaGreatDoorSNxr
set_option linter.all false
namespace Go.Proofs.YtkpmcjfolncmmaaGreatDoor
open Go.RowKit
section
variable {P : Program} {ops : Array Oper} {Q : Exit → Act → World → Prop} {md : Region.Mode} {S : World → Prop} {t : Nat}
def Owed (S : World → Prop) (t : Nat) (listed : Array Bool) (w : World) : Prop := listed.getD t false = true ∨ S w
def wpLate (P : Program) (md : Region.Mode) (ops : Array Oper) (Q : Exit → Act → World → Prop) (S : World → Prop) (t : Nat) : Nat → Array Bool → Act → World → Prop
  | 0, listed, a, w => Region.ready md ops listed = [] ∧ Q .normal a w
  | n + 1, listed, a, w => (Region.ready md ops listed = [] → Q .normal a w) ∧
      ∀ j ∈ Region.ready md ops listed, wpOp P ops Q j (fun b u => Owed S t (listed.setIfInBounds j true) u ∧ wpLate P md ops Q S t n (listed.setIfInBounds j true) b u) a w
theorem wpAny_of_late : ∀ (n : Nat) (listed : Array Bool) (a : Act) (w : World), wpLate P md ops Q S t n listed a w → wpAny P md ops Q n listed a w
  | 0, _, _, _, h => h
  | n + 1, _, _, _, h => ⟨h.1, fun j hj => wpOp_mono (fun b u h2 => wpAny_of_late n _ b u h2.2) (h.2 j hj)⟩
theorem Owed.set {listed : Array Bool} {w : World} {i : Nat} (hit : i ≠ t) : Owed S t (listed.setIfInBounds i true) w ↔ Owed S t listed w := by
  unfold Owed; rw [getD_set_ne false hit]
theorem late_first {i : Nat} {oi : Oper} {v : Value} (hi : ops[i]? = some oi) (hsel : Region.noSelect ops = true) (hQ : ∀ c a w, Q (.panic c) (a.put oi.dst v) w → Q (.panic c) a w) (hit : i ≠ t)
    (R : World → Prop) (G : Array Bool → Prop) (hR : ∀ listed w, G listed → Owed S t listed w → R w)
    (hG : ∀ listed j, G listed → listed.getD i true = false → j ∈ Region.ready md ops listed → j ≠ i → G (listed.setIfInBounds j true)) (n : Nat) :
    ∀ (listed : Array Bool) (a : Act) (w : World), (∀ j oj, ops[j]? = some oj → j ≠ i → listed.getD j true = false → (∀ e ∈ oj.after, Region.binds md e = true → e.on ≠ i) → oi.apart ops oj = true) →
      G listed → i ∈ Region.ready md ops listed → YieldsIf P ops R oi v a → Owed S t listed w → wpLate P md ops Q S t n (listed.setIfInBounds i true) (a.put oi.dst v) w → wpLate P md ops Q S t (n + 1) listed a w := by
  have no := fun j o cs b (h : ops[j]? = some o) => Region.noSelect_spec hsel j o cs b h
  induction n with
  | zero =>
    intro listed a w _ g hr hy hS H
    refine ⟨fun h => absurd hr (by rw [h]; exact List.not_mem_nil), fun j hj => ?_⟩
    by_cases e : j = i
    · subst e; exact hy.wpOp hi (hR _ _ g hS) ⟨(Owed.set hit).2 hS, H⟩
    · have h2 := ready_mono hj e
      rw [H.1] at h2
      exact absurd h2 List.not_mem_nil
  | succ n ih =>
    intro listed a w hf g hr hy hS H
    refine ⟨fun h => absurd hr (by rw [h]; exact List.not_mem_nil), fun j hj => ?_⟩
    by_cases e : j = i
    · subst e; exact hy.wpOp hi (hR _ _ g hS) ⟨(Owed.set hit).2 hS, H⟩
    · obtain ⟨hun, oj, hoj, hall⟩ := mem_ready.1 hj
      have hui := (mem_ready.1 hr).1
      have hnot : ∀ x ∈ oj.after, Region.binds md x = true → x.on ≠ i := fun x hx hb hxi => by
        have h1 := hall x hx hb
        rw [hxi] at h1
        by_cases hl : i < listed.size
        · simp [hl] at hui h1; rw [hui] at h1; cases h1
        · simp [Array.getElem?_eq_none (Nat.le_of_not_lt hl)] at hui
      have h2 := wpOp_putIf hoj (hf j oj hoj e hun hnot) (fun cs b => no i oi cs b hi) (fun cs b => no j oj cs b hoj) hQ hy (H.2 j (ready_mono hj e))
      refine wpOp_mono (fun b u h3 => ?_) h2
      obtain ⟨hy3, ho3, hw3⟩ := h3
      have hc : (listed.setIfInBounds i true).setIfInBounds j true = (listed.setIfInBounds j true).setIfInBounds i true := (Array.setIfInBounds_comm _ _ e).symm
      rw [hc] at ho3 hw3
      have ho4 := (Owed.set hit).1 ho3
      refine ⟨ho4, ih (listed.setIfInBounds j true) b u (fun k ok hk hki hku hno => hf k ok hk hki ?_ hno) (hG listed j g hui hj e) (ready_mono hr (Ne.symm e)) hy3 ho4 hw3⟩
      by_cases ejk : j = k
      · subst ejk; exact hun
      · rwa [getD_set_ne true ejk] at hku
theorem late_free {i : Nat} {oi : Oper} {v : Value} {n : Nat} {listed : Array Bool} {a : Act} {w : World} (hi : ops[i]? = some oi) (hsel : Region.noSelect ops = true) (hf : Region.free md ops listed i = true) (hr : (Region.ready md ops listed).contains i = true) (hit : i ≠ t)
    (hQ : ∀ c a w, Q (.panic c) (a.put oi.dst v) w → Q (.panic c) a w) (hy : YieldsIf P ops (fun _ => True) oi v a) (hS : Owed S t listed w)
    (h : wpLate P md ops Q S t n (listed.setIfInBounds i true) (a.put oi.dst v) w) : wpLate P md ops Q S t (n + 1) listed a w :=
  late_first hi hsel hQ hit (fun _ => True) (fun _ => True) (fun _ _ _ _ => trivial) (fun _ _ _ _ _ _ => trivial) n listed a w (Region.free_spec hi hf) trivial (by simpa using hr) hy hS h
theorem late_load {i : Nat} {oi : Oper} {v : Value} {n : Nat} {listed : Array Bool} {a : Act} {w : World} (hi : ops[i]? = some oi) (hsel : Region.noSelect ops = true) (hf : Region.free md ops listed i = true) (hr : (Region.ready md ops listed).contains i = true) (hit : i ≠ t)
    (hw : Region.waitsFor md ops t i = true) (ht : listed.getD t false = false)
    (hQ : ∀ c a w, Q (.panic c) (a.put oi.dst v) w → Q (.panic c) a w) (hy : YieldsIf P ops S oi v a) (hS : S w)
    (h : wpLate P md ops Q S t n (listed.setIfInBounds i true) (a.put oi.dst v) w) : wpLate P md ops Q S t (n + 1) listed a w := by
  obtain ⟨ot, hot, e, he, hb, heq⟩ := Region.waitsFor_spec hw
  refine late_first hi hsel hQ hit S (fun l => l.getD t false = false) (fun l u g ho => ?_) (fun l j g hu hj hji => ?_) n listed a w (Region.free_spec hi hf) ht (by simpa using hr) hy (.inr hS) h
  · rcases ho with ho | ho
    · rw [g] at ho; cases ho
    · exact ho
  · have hjt : j ≠ t := fun hjt => by
      subst hjt
      obtain ⟨_, o2, ho2, hall⟩ := mem_ready.1 hj
      rw [hot] at ho2
      cases ho2
      have h1 := hall e he hb
      rw [heq] at h1
      by_cases hl : i < l.size
      · simp [hl] at hu h1; rw [hu] at h1; cases h1
      · simp [Array.getElem?_eq_none (Nat.le_of_not_lt hl)] at hu
    show (l.setIfInBounds j true).getD t false = false
    rw [getD_set_ne false hjt]; exact g
theorem late_one {j : Nat} {o : Oper} {n : Nat} {listed : Array Bool} {a : Act} {w : World} (hr : Region.ready md ops listed = [j]) (ho : ops[j]? = some o) (hflag : (listed.setIfInBounds j true).getD t false = true)
    (h : ∀ K : Act → World → Prop, Shut (∀ b u, wpLate P md ops Q S t n (listed.setIfInBounds j true) b u → K b u) → if Region.wanted o (yielded ops a.tmps) = true then Oper.wp P o a w K Q else K (a.put o.dst undef) w) : wpLate P md ops Q S t (n + 1) listed a w :=
  ⟨fun h0 => (by rw [hr] at h0; cases h0), fun k hk => by
    rw [hr] at hk
    obtain rfl := List.mem_singleton.1 hk
    exact wpOp_step ho fun K hK => h K fun b u hb => hK b u ⟨.inl hflag, hb⟩⟩
theorem late_done {listed : Array Bool} {a : Act} {w : World} (hr : Region.ready md ops listed = []) (h : Q .normal a w) : ∀ n, wpLate P md ops Q S t n listed a w
  | 0 => ⟨hr, h⟩
  | _ + 1 => ⟨fun _ => h, by rw [hr]; simp⟩
theorem late_begin {id : Nat} {a : Act} {w : World} (hm : P.follows .mixedOrders = true) (h : wpLate P .any ops Q S t ops.size (Array.replicate ops.size false) a w.drew) : (Code.region id ops true).wp P Q a w :=
  wp_region_any hm (wpAny_of_late _ _ _ _ h)
end
end Go.Proofs.YtkpmcjfolncmmaaGreatDoor
namespace Go.Proofs.YtkpmcjfolncmmaaGreatDoor
open Go.RowKit
theorem shape1 (d : RecD) (hk : d.kind = 1) (h : emptyD (restOf d) = true) : d = { kind := 1, round := d.round, tick := d.tick, carriers := d.carriers, commit := d.commit, reveal := d.reveal, scheme := d.scheme, lots := d.lots, owners := d.owners } := by
  rcases d with ⟨kind, round, lot, carrier, tick, barred, dig, bid, nonce, state, winner, price, carriers, commit, reveal, scheme, lots, owners⟩
  simp only at hk
  subst hk
  simpa [emptyD, restOf] using h
theorem shape2 (d : RecD) (hk : d.kind = 2) (h : emptyD (restOf d) = true) : d = { kind := 2, round := d.round, tick := d.tick, lot := d.lot, barred := d.barred } := by
  rcases d with ⟨kind, round, lot, carrier, tick, barred, dig, bid, nonce, state, winner, price, carriers, commit, reveal, scheme, lots, owners⟩
  simp only at hk
  subst hk
  simpa [emptyD, restOf] using h
theorem shape3 (d : RecD) (hk : d.kind = 3) (h : emptyD (restOf d) = true) : d = { kind := 3, round := d.round, tick := d.tick, carrier := d.carrier, dig := d.dig } := by
  rcases d with ⟨kind, round, lot, carrier, tick, barred, dig, bid, nonce, state, winner, price, carriers, commit, reveal, scheme, lots, owners⟩
  simp only at hk
  subst hk
  simpa [emptyD, restOf] using h
theorem shape4 (d : RecD) (hk : d.kind = 4) (h : emptyD (restOf d) = true) : d = { kind := 4, round := d.round, tick := d.tick, carrier := d.carrier, bid := d.bid, nonce := d.nonce } := by
  rcases d with ⟨kind, round, lot, carrier, tick, barred, dig, bid, nonce, state, winner, price, carriers, commit, reveal, scheme, lots, owners⟩
  simp only at hk
  subst hk
  simpa [emptyD, restOf] using h
theorem shape5 (d : RecD) (hk : d.kind = 5) (h : emptyD (restOf d) = true) : d = { kind := 5, round := d.round, tick := d.tick, state := d.state, winner := d.winner, price := d.price } := by
  rcases d with ⟨kind, round, lot, carrier, tick, barred, dig, bid, nonce, state, winner, price, carriers, commit, reveal, scheme, lots, owners⟩
  simp only at hk
  subst hk
  simpa [emptyD, restOf] using h
theorem shape6 (d : RecD) (hk : d.kind = 6) (h : emptyD (restOf d) = true) : d = { kind := 6, round := d.round, tick := d.tick } := by
  rcases d with ⟨kind, round, lot, carrier, tick, barred, dig, bid, nonce, state, winner, price, carriers, commit, reveal, scheme, lots, owners⟩
  simp only at hk
  subst hk
  simpa [emptyD, restOf] using h
theorem digA_info (s : ByteArray) : (Tryz.prog.info? 33).map (·.size) = some (digA s).size := by
  rw [digA_size]; kernel_rfl
theorem digA_eql (s : ByteArray) (w : World) : (binOp .eql 33 (.agg (digA s)) (.agg (digA s))).run Tryz.prog w = .ok (.bool true) w := by
  have h := eqDig (digA s) (digA s) (byteOf s) (byteOf s) (fun j hj => digA_get s j hj) (fun j hj => digA_get s j hj) w
  rw [h]
  simp
set_option maxHeartbeats 1000000 in
set_option maxRecDepth 100000 in
theorem last_log (b : Nat) (t s : ByteArray) (n : Int) (w : World) (h : LogAt w b t s n) : Calls Tryz.prog 21 #[.pointer (some ⟨b, 0, none⟩)] w fun e w' => e = .returned (.agg (digA s)) ∧ Below w.heap.size w w' := by
  obtain ⟨D, hD⟩ : ∃ x, x = w.heap.size := ⟨_, rfl⟩
  obtain ⟨w1, hw1⟩ : ∃ z, z = w.alloc (.cells (digA zero32) 33) := ⟨_, rfl⟩
  have HN1 : Aside (Below w.heap.size w w1) := by rw [hw1]; exact new_alloc _ _
  have HD1 : Aside (w1.heap[D]? = some (.cells (digA zero32) 33 (0, 0))) := by rw [hw1, hD]; exact heap_new _ _
  have hrg : w1.rangeAt b 0 (digA s).toList := fun j v hv => by
    have hj : j < 32 := by have := (List.getElem?_eq_some_iff.1 hv).1; rw [Array.length_toList, digA_size] at this; exact this
    rw [Nat.zero_add, (h.on HN1.out).sum.cell j hj, ← hv, Array.getElem?_toList, digA_get s j hj]
  have HRG := aside hrg
  have HDW : Aside (w.heap.size ≤ D) := Nat.le_of_eq hD.symm
  clear hrg h
  go_enter Tryz.func21, Tryz.ntmps21
  go_upto_region 1 with fail
  rw [show (#[.int .u8 0, .int .u8 0, .int .u8 0, .int .u8 0, .int .u8 0, .int .u8 0, .int .u8 0, .int .u8 0, .int .u8 0, .int .u8 0, .int .u8 0, .int .u8 0, .int .u8 0, .int .u8 0, .int .u8 0, .int .u8 0, .int .u8 0, .int .u8 0, .int .u8 0, .int .u8 0, .int .u8 0, .int .u8 0, .int .u8 0, .int .u8 0, .int .u8 0, .int .u8 0, .int .u8 0, .int .u8 0, .int .u8 0, .int .u8 0, .int .u8 0, .int .u8 0] : Array Value) = digA zero32 from digA_zero.symm, ← hw1, ← hD]
  clear hw1 hD
  obtain ⟨cs, hcs⟩ : ∃ c, c = (digA s).toList := ⟨_, rfl⟩
  have hi1 : (Tryz.prog.info? 33).map (·.size) = some cs.length := by rw [hcs, Array.length_toList]; exact digA_info s
  have HCS : Aside (cs.toArray = digA s) := by rw [Aside, hcs, Array.toArray_toList]
  have hdi := digA_info s
  rw [← hcs] at HRG
  clear hcs
  go_wp2_with (first
    | (refine wpList_load_midG (by rfl) _ _ rfl b 0 rfl _ _ HRG.out Tryz.underlying33 rfl hi1 (digA s) HCS.out ?_)
    | (refine wpList_store_row rfl _ _ _ rfl D (digA s) rfl rfl 33 _ HD1.out hdi (by rw [digA_size, digA_size]) (digA_one s) ?_)
    | fail)
  refine bodyPost_ret (results_cell_row rfl _ _ D 33 (digA s) (0, 0) _ rfl (setRow_heap w1 D _ _ _ _ HD1.out) Tryz.underlying33 rfl (digA_info s)) rfl ⟨rfl, ?_⟩
  exact new_of_keeps HN1.out (keeps_setRow w1 D _ (fun h => h rfl)) HDW.out
def RecsM (O : Nat → Prop) (B C : Nat) (w : World) (v : Value) (ds : List RecD) : Prop :=
  ∃ rvs : List RecV, rvs.length = ds.length ∧ w.ownsRow C 38 49 v ds.length (rvs.flatMap fun r => (recCells r).toList) ∧ ∀ j, j < ds.length → RecM O B w (rvs.getD j {}) (ds.getD j {})
theorem RecsM.nil (O : Nat → Prop) (B C : Nat) (w : World) : RecsM O B C w (.slice none 0 0) [] := ⟨[], rfl, ⟨rfl, .inl ⟨rfl, rfl⟩⟩, fun j h => by simp at h⟩
theorem RecsM.on {O : Nat → Prop} {B C : Nat} {w w' : World} {v : Value} {ds : List RecD} (h : RecsM O B C w v ds) (hb : Below w.heap.size w w') : RecsM O B C w' v ds := by
  obtain ⟨rvs, h1, h2, h3⟩ := h
  exact ⟨rvs, h1, ownsRow_new h2 hb, fun j hj => (h3 j hj).on hb⟩
theorem RecsM.keeps {O : Nat → Prop} {B C : Nat} {K : Nat → Prop} {w w' : World} {v : Value} {ds : List RecD} (h : RecsM O B C w v ds) (hk : Keeps K w w') (hO : ∀ k, O k → K k) (hK : ∀ k, B ≤ k → K k) (hBC : B ≤ C) : RecsM O B C w' v ds := by
  obtain ⟨rvs, h1, h2, h3⟩ := h
  exact ⟨rvs, h1, ownsRow_keeps h2 hk (fun k h => hK k (Nat.le_trans hBC h)), fun j hj => (h3 j hj).keeps hk fun k _ hr => hr.elim (hO k) (fun h => hK k h.1)⟩
theorem RecsM.own {O : Nat → Prop} {B C : Nat} {w : World} {v : Value} {ds : List RecD} (h : RecsM O B C w v ds) : ∀ k, v.ownBlock = some k → C ≤ k ∧ k < w.heap.size ∧ ∃ cur, w.heap[k]? = some (.cells cur 38 (0, 0)) := by
  obtain ⟨rvs, h1, ⟨_, h2⟩, h3⟩ := h
  intro k hk
  rcases h2 with ⟨rfl, _⟩ | ⟨g, cap, cur, rfl, hg, hh, _⟩
  · cases hk
  · have : g = k := by simpa [Value.ownBlock] using hk
    subst this
    exact ⟨hg, whole_lt hh, cur, hh⟩
theorem RecsM.form {O : Nat → Prop} {B C : Nat} {w : World} {v : Value} {ds : List RecD} (h : RecsM O B C w v ds) : ∃ a c, v = .slice a ds.length c := by
  obtain ⟨_, _, h2, _⟩ := h
  obtain ⟨a, cap, e, _⟩ := ownsRow_form h2
  exact ⟨a, cap, e⟩
theorem RecsM.snoc {O : Nat → Prop} {B C : Nat} {w w' : World} {v v' : Value} {ds : List RecD} {rvs : List RecV} {rv : RecV} {d : RecD} (hO : ∀ k, O k → k < C) (h1 : rvs.length = ds.length) (h2 : w.ownsRow C 38 49 v ds.length (rvs.flatMap fun r => (recCells r).toList)) (h3 : ∀ j, j < ds.length → RecM O B w (rvs.getD j {}) (ds.getD j {}))
    (hr : RecM O B w rv d) (hk : ∀ K : Nat → Prop, (∀ k, v.ownBlock = some k → ¬ K k) → Keeps K w w')
    (hown : w'.ownsRow C 38 49 v' (ds.length + 1) ((rvs.flatMap fun r => (recCells r).toList) ++ (recCells rv).toList)) : RecsM O B C w' v' (ds ++ [d]) := by
  have ho := RecsM.own ⟨rvs, h1, h2, h3⟩
  have hkk := hk (fun k => v.ownBlock ≠ some k) (fun k e => fun h => h e)
  have hT : ∀ k, k < w.heap.size → Rw O B w k → v.ownBlock ≠ some k := fun k _ hb e => by
    obtain ⟨hB, _, cur, hc⟩ := ho k e
    rcases hb with hb | hb
    · have := hO k hb; omega
    · exact row_not_rec hb hc
  refine ⟨rvs ++ [rv], by simp [h1], ?_, fun j hj => ?_⟩
  · rw [List.length_append, List.flatMap_append]
    simpa using hown
  · by_cases e : j < ds.length
    · have e1 : (rvs ++ [rv]).getD j {} = rvs.getD j {} := by simp [List.getD_eq_getElem?_getD, List.getElem?_append_left (show j < rvs.length by omega)]
      have e2 : (ds ++ [d]).getD j {} = ds.getD j {} := by simp [List.getD_eq_getElem?_getD, List.getElem?_append_left e]
      rw [e1, e2]
      exact (h3 j e).keeps hkk hT
    · have ej : j = ds.length := by rw [List.length_append] at hj; simp at hj; omega
      have e1 : (rvs ++ [rv]).getD j {} = rv := by simp [List.getD_eq_getElem?_getD, ej, ← h1]
      have e2 : (ds ++ [d]).getD j {} = d := by simp [List.getD_eq_getElem?_getD, ej]
      rw [e1, e2]
      exact hr.keeps hkk hT
theorem RecsM.at_ {O : Nat → Prop} {B C : Nat} {w : World} {v : Value} {ds : List RecD} (h : RecsM O B C w v ds) : RecsAt w v ds := by
  obtain ⟨rvs, h1, h2, h3⟩ := h
  obtain ⟨a, cap, e, hc, hx⟩ := ownsRow_form h2
  refine ⟨a, cap, fun j => rvs.getD j {}, e, hc, fun h0 => ?_, fun j hj => (h3 j hj).at_⟩
  obtain ⟨g, ea, _, hg, hj⟩ := hx h0
  refine ⟨g, 0, ea, hg, fun j hjl i v hv => ?_⟩
  have hi : i < 49 := by
    have := (List.getElem?_eq_some_iff.1 hv).1
    rw [Array.length_toList, recCells_size] at this
    exact this
  have := flat49 rvs j i hi
  rw [if_pos (by omega), hv] at this
  rw [Nat.zero_add]
  exact hj _ _ this
theorem RowIM.take {O : Nat → Prop} {B : Nat} {w : World} {a : Option Addr} {n c m : Nat} {xs : List Int} (h : RowIM O B w (.slice a n c) xs) (hn : xs.length = n) (hm : m ≤ n) : RowIM O B w (.slice a m c) (xs.take m) := by
  obtain ⟨a', c', e, hc, hh⟩ := h
  obtain ⟨rfl, _, rfl⟩ := Value.slice.inj e
  have hl : (xs.take m).length = m := by rw [List.length_take]; omega
  refine ⟨a, c, by rw [hl], by omega, fun h0 => ?_⟩
  rw [hl] at h0
  obtain ⟨lb, lo, ea, hb, hr, hj⟩ := hh (by omega)
  refine ⟨lb, lo, ea, hb, hr, fun j hjl => ?_⟩
  rw [hl] at hjl
  rw [hj j (by omega), List.getD_eq_getElem?_getD, List.getD_eq_getElem?_getD, List.getElem?_take_of_lt hjl]
theorem RowLM.take {O : Nat → Prop} {B : Nat} {w : World} {a : Option Addr} {n c m : Nat} {xs : List (Int × Int)} (h : RowLM O B w (.slice a n c) xs) (hn : xs.length = n) (hm : m ≤ n) : RowLM O B w (.slice a m c) (xs.take m) := by
  obtain ⟨a', c', e, hc, hh⟩ := h
  obtain ⟨rfl, _, rfl⟩ := Value.slice.inj e
  have hl : (xs.take m).length = m := by rw [List.length_take]; omega
  refine ⟨a, c, by rw [hl], by omega, fun h0 => ?_⟩
  rw [hl] at h0
  obtain ⟨lb, lo, ea, hb, hr, hj⟩ := hh (by omega)
  refine ⟨lb, lo, ea, hb, hr, fun j hjl => ?_⟩
  rw [hl] at hjl
  have e2 : (xs.take m).getD j (0, 0) = xs.getD j (0, 0) := by rw [List.getD_eq_getElem?_getD, List.getD_eq_getElem?_getD, List.getElem?_take_of_lt hjl]
  rw [e2]
  exact hj j (by omega)
def CtF (w : World) (P : Nat) (x0 x1 : Int) (W : World) : Prop :=
  ∃ rv d, RecIn W (P + 1) rv ∧ (∀ B, RecM (· < w.heap.size) B W rv d) ∧ d.ok ∧ d.barred.length + d.lots.length + d.owners.length ≤ 1000 ∧ W.heap[P]? = some (.cells #[.int .i64 x0, .int .i64 x1] 55 (0, 0)) ∧ Below w.heap.size w W
theorem ctf_of {w w1 : World} {P : Nat} {x0 x1 : Int} {d : RecD} {ba la oa : Option Addr} {bn bc ln lc on oc lm om bm : Nat} (hP : w.heap.size ≤ P) (hB : Below w.heap.size w w1) (h1 : w1.heap[P]? = some (.cells #[.int .i64 x0, .int .i64 x1] 55 (0, 0)))
    (hR : RecIn w1 (P + 1) (d.toV (.slice ba bn bc) (.slice la ln lc) (.slice oa on oc))) (hb : ∀ B, RowIM (· < w.heap.size) B w (.slice ba bn bc) d.barred) (hl : ∀ B, RowLM (· < w.heap.size) B w (.slice la ln lc) d.lots) (ho : ∀ B, RowIM (· < w.heap.size) B w (.slice oa on oc) d.owners)
    (hok : ∀ (b : List Int) (l : List (Int × Int)) (o : List Int), b.length + l.length + o.length ≤ 1099511627776 → RecD.ok { d with barred := b, lots := l, owners := o }) (hlen : d.barred.length = bn ∧ d.lots.length = ln ∧ d.owners.length = on)
    (hlim : (lm ≤ ln ∧ lm ≤ 40) ∧ (om ≤ on ∧ om ≤ 70) ∧ (bm ≤ bn ∧ bm ≤ 40)) :
    CtF w P x0 x1 ((((w1.setCell ⟨P + 1, 47, none⟩ (.slice la lm lc)).setCell ⟨P + 1, 48, none⟩ (.slice oa om oc)).setCell ⟨P + 1, 5, none⟩ (.slice ba bm bc)).drew) := by
  have hP1 : w.heap.size ≤ P + 1 := by omega
  have hW : Below w.heap.size w ((((w1.setCell ⟨P + 1, 47, none⟩ (.slice la lm lc)).setCell ⟨P + 1, 48, none⟩ (.slice oa om oc)).setCell ⟨P + 1, 5, none⟩ (.slice ba bm bc)).drew) := (((hB.setCell (p := ⟨P + 1, 47, none⟩) hP1 _).setCell (p := ⟨P + 1, 48, none⟩) hP1 _).setCell (p := ⟨P + 1, 5, none⟩) hP1 _).drew
  have e1 : (d.barred.take bm).length = bm := by rw [List.length_take]; omega
  have e2 : (d.lots.take lm).length = lm := by rw [List.length_take]; omega
  have e3 : (d.owners.take om).length = om := by rw [List.length_take]; omega
  refine ⟨d.toV (.slice ba bm bc) (.slice la lm lc) (.slice oa om oc), { d with barred := d.barred.take bm, lots := d.lots.take lm, owners := d.owners.take om }, (((hR.setLots _).setOwners _).setBarred _).drew, fun B => ⟨_, _, _, rfl, ?_, ?_, ?_⟩, hok _ _ _ (by rw [e1, e2, e3]; omega), ?_, ?_, hW⟩
  · exact (RowIM.take (hb B) hlen.1 hlim.2.2.1).keeps (keeps_of_new hW (fun _ => True)) (fun _ _ _ => trivial)
  · exact (RowLM.take (hl B) hlen.2.1 hlim.1.1).keeps (keeps_of_new hW (fun _ => True)) (fun _ _ _ => trivial)
  · exact (RowIM.take (ho B) hlen.2.2 hlim.2.1.1).keeps (keeps_of_new hW (fun _ => True)) (fun _ _ _ => trivial)
  · show (d.barred.take bm).length + (d.lots.take lm).length + (d.owners.take om).length ≤ 1000
    rw [e1, e2, e3]; omega
  · exact whole_other (whole_other (whole_other h1 (by omega) 47 _) (by omega) 48 _) (by omega) 5 _
theorem may_rows {d : RecD} (h : mayB d = true) (hok : d.ok) : d.barred.length + d.lots.length + d.owners.length ≤ 1000 := by
  obtain ⟨hr, he⟩ := mayB_and h
  have hk := may_kind h
  by_cases e1 : d.kind = 1
  · have b : d.barred = [] := congrArg RecD.barred (shape1 d e1 he)
    have := right1 e1 hr
    rw [b, List.length_nil]; omega
  by_cases e2 : d.kind = 2
  · have l : d.lots = [] := congrArg RecD.lots (shape2 d e2 he)
    have o : d.owners = [] := congrArg RecD.owners (shape2 d e2 he)
    have := (bytes_bs h hok).2.1
    rw [bytesL, if_neg e1, if_pos e2] at this
    simp only [rowIL, List.length_append, List.length_cons, List.length_nil] at this
    simp only [l, o, List.length_nil]; omega
  have key : ∀ x : RecD, d = x → x.barred = [] → x.lots = [] → x.owners = [] → d.barred.length + d.lots.length + d.owners.length ≤ 1000 := fun x e b l o => by
    rw [e, b, l, o]; decide
  by_cases e3 : d.kind = 3
  · exact key _ (shape3 d e3 he) rfl rfl rfl
  by_cases e4 : d.kind = 4
  · exact key _ (shape4 d e4 he) rfl rfl rfl
  by_cases e5 : d.kind = 5
  · exact key _ (shape5 d e5 he) rfl rfl rfl
  exact key _ (shape6 d (by omega) he) rfl rfl rfl
structure TSt (w : World) (P b C : Nat) (x0 x1 : Int) (rv : RecV) (d : RecD) (v1 : Value) (ds acc : List RecD) (v9 : Value) (m : Nat) (W : World) : Prop where
  box : RecIn W (P + 1) rv
  recm : RecM (· < w.heap.size) (b + 1) W rv d
  p : W.heap[P]? = some (.cells #[.int .i64 x0, .int .i64 x1] 55 (0, 0))
  bel : Below w.heap.size w W
  log : LogAt W b (textF (sumB refK refF) zero32 acc) (lastF (sumB refK refF) zero32 acc) acc.length
  rs : RecsF (b + 1) W v1 ds
  all : RecsM (· < w.heap.size) (b + 1) C W v9 acc
  may : AllMay acc
  few : acc.length ≤ m
  pb : w.heap.size = P ∧ P + 2 ≤ b
  bc : b + 1 ≤ C
  cw : C ≤ W.heap.size
  rso : ∀ k, v1.ownBlock = some k → k < C
theorem TSt.on {w : World} {P b C : Nat} {x0 x1 : Int} {rv : RecV} {d : RecD} {v1 : Value} {ds acc : List RecD} {v9 : Value} {m : Nat} {W W' : World} (h : TSt w P b C x0 x1 rv d v1 ds acc v9 m W) (hb : Below W.heap.size W W') : TSt w P b C x0 x1 rv d v1 ds acc v9 m W' :=
  ⟨h.box.new hb, h.recm.on hb, whole_new h.p hb, new_trans h.bel hb, h.log.on hb, h.rs.on hb, h.all.on hb, h.may, h.few, h.pb, h.bc, Nat.le_trans h.cw hb.size, h.rso⟩
theorem TSt.up {w : World} {P b C : Nat} {x0 x1 : Int} {rv : RecV} {d : RecD} {v1 : Value} {ds acc : List RecD} {v9 : Value} {m m' : Nat} {W : World} (h : TSt w P b C x0 x1 rv d v1 ds acc v9 m W) (hm : m ≤ m') : TSt w P b C x0 x1 rv d v1 ds acc v9 m' W :=
  ⟨h.box, h.recm, h.p, h.bel, h.log, h.rs, h.all, h.may, Nat.le_trans h.few hm, h.pb, h.bc, h.cw, h.rso⟩
structure TEl (w : World) (b : Nat) (rv : RecV) (d : RecD) (W : World) : Prop where
  recm : RecM (· < w.heap.size) (b + 1) W rv d
  ok : d.ok
theorem TEl.on {w : World} {b : Nat} {rv : RecV} {d : RecD} {W W' : World} (h : TEl w b rv d W) (hb : Below W.heap.size W W') : TEl w b rv d W' := ⟨h.recm.on hb, h.ok⟩
theorem TEl.lay {w : World} {b : Nat} {rv : RecV} {d : RecD} {W W' : World} (h : TEl w b rv d W) (hb : w.heap.size ≤ b) (hk : Keeps (· ≠ b) W W') : TEl w b rv d W' :=
  ⟨h.recm.keeps hk fun k _ hr => hr.elim (fun h => Nat.ne_of_lt (Nat.lt_of_lt_of_le h hb)) (fun h => Nat.ne_of_gt h.1), h.ok⟩
theorem TSt.lay {w : World} {P b C : Nat} {x0 x1 : Int} {rv : RecV} {d : RecD} {v1 : Value} {ds acc : List RecD} {v9 : Value} {m : Nat} {W W' : World} (h : TSt w P b C x0 x1 rv d v1 ds acc v9 m W) (hk : Keeps (· ≠ b) W W') (hl : LogAt W' b (textF (sumB refK refF) zero32 acc) (lastF (sumB refK refF) zero32 acc) acc.length) : TSt w P b C x0 x1 rv d v1 ds acc v9 m W' := by
  have hpb := h.pb
  refine ⟨h.box.keeps hk (by omega), h.recm.keeps hk fun k _ hr => ?_, whole_keeps h.p hk (by omega), new_of_keeps h.bel hk (by omega), hl, h.rs.keeps hk (fun k hB => by omega), h.all.keeps hk (fun k hO => by omega) (fun k hB => by omega) h.bc, h.may, h.few, h.pb, h.bc, Nat.le_trans h.cw hk.size, h.rso⟩
  rcases hr with hr | hr
  · exact Nat.ne_of_lt (Nat.lt_of_lt_of_le hr (by omega))
  · have := hr.1; omega
structure TLd (w : World) (P b C : Nat) (x0 x1 : Int) (rv : RecV) (d : RecD) (v1 : Value) (ds acc : List RecD) (v9 : Value) (m : Nat) (dX : RecD) (W : World) : Prop where
  box : RecIn W (P + 1) rv
  recm : RecM (· < w.heap.size) (b + 1) W rv d
  p : W.heap[P]? = some (.cells #[.int .i64 x0, .int .i64 x1] 55 (0, 0))
  bel : Below w.heap.size w W
  log : LogAt W b (textF (sumB refK refF) zero32 (acc ++ [dX])) (lastF (sumB refK refF) zero32 (acc ++ [dX])) (acc ++ [dX]).length
  rs : RecsF (b + 1) W v1 ds
  all : RecsM (· < w.heap.size) (b + 1) C W v9 acc
  may : AllMay acc
  few : acc.length ≤ m
  pb : w.heap.size = P ∧ P + 2 ≤ b
  bc : b + 1 ≤ C
  cw : C ≤ W.heap.size
  rso : ∀ k, v1.ownBlock = some k → k < C
theorem TLd.on {w : World} {P b C : Nat} {x0 x1 : Int} {rv : RecV} {d : RecD} {v1 : Value} {ds acc : List RecD} {v9 : Value} {m : Nat} {dX : RecD} {W W' : World} (h : TLd w P b C x0 x1 rv d v1 ds acc v9 m dX W) (hb : Below W.heap.size W W') : TLd w P b C x0 x1 rv d v1 ds acc v9 m dX W' :=
  ⟨h.box.new hb, h.recm.on hb, whole_new h.p hb, new_trans h.bel hb, h.log.on hb, h.rs.on hb, h.all.on hb, h.may, h.few, h.pb, h.bc, Nat.le_trans h.cw hb.size, h.rso⟩
theorem TSt.laid {w : World} {P b C : Nat} {x0 x1 : Int} {rv : RecV} {d : RecD} {v1 : Value} {ds acc : List RecD} {v9 : Value} {m : Nat} {W W' : World} {dX : RecD} (h : TSt w P b C x0 x1 rv d v1 ds acc v9 m W) (hk : Keeps (· ≠ b) W W')
    (hl : LogAt W' b (textF (sumB refK refF) zero32 acc ++ entryF (sumB refK refF) (lastF (sumB refK refF) zero32 acc) dX) (sumB refK refF (lastF (sumB refK refF) zero32 acc ++ bytesF dX)) ((acc.length : Int) + 1)) : TLd w P b C x0 x1 rv d v1 ds acc v9 m dX W' := by
  have hpb := h.pb
  refine ⟨h.box.keeps hk (by omega), h.recm.keeps hk fun k _ hr => ?_, whole_keeps h.p hk (by omega), new_of_keeps h.bel hk (by omega), ?_, h.rs.keeps hk (fun k hB => by omega), h.all.keeps hk (fun k hO => by omega) (fun k hB => by omega) h.bc, h.may, h.few, h.pb, h.bc, Nat.le_trans h.cw hk.size, h.rso⟩
  · rcases hr with hr | hr
    · exact Nat.ne_of_lt (Nat.lt_of_lt_of_le hr (by omega))
    · have := hr.1; omega
  · obtain ⟨h1, h2⟩ := text_snoc (sumB refK refF) acc zero32 dX
    rw [h1, h2, show ((acc ++ [dX]).length : Int) = (acc.length : Int) + 1 by simp]
    exact hl
theorem TLd.done {w : World} {P b C : Nat} {x0 x1 : Int} {rv : RecV} {d : RecD} {v1 : Value} {ds acc : List RecD} {v9 v' : Value} {m : Nat} {dX : RecD} {W W' : World} (h : TLd w P b C x0 x1 rv d v1 ds acc v9 m dX W) (hX : mayB dX = true ∧ dX.ok)
    (hk : ∀ K : Nat → Prop, (∀ k, v9.ownBlock = some k → ¬ K k) → Keeps K W W') (hall : RecsM (· < w.heap.size) (b + 1) C W' v' (acc ++ [dX])) : TSt w P b C x0 x1 rv d v1 ds (acc ++ [dX]) v' (m + 1) W' := by
  have hpb := h.pb
  have hbc := h.bc
  have hkk := hk (fun k => v9.ownBlock ≠ some k) (fun k e => fun h => h e)
  have hlow : ∀ k, k < C → v9.ownBlock ≠ some k := fun k hkC e => by have := (h.all.own k e).1; omega
  have hrow : ∀ k, RowBlock (b + 1) W k → v9.ownBlock ≠ some k := fun k hb e => by
    obtain ⟨_, _, cur, hc⟩ := h.all.own k e
    exact row_not_rec hb hc
  have hR : Keeps (· < b) W W' := hk _ (fun k e => by have := (h.all.own k e).1; omega)
  refine ⟨h.box.keeps hkk (hlow _ (by omega)), h.recm.keeps hkk (fun k _ hr => hr.elim (fun h2 => hlow k (by omega)) (hrow k)), whole_keeps h.p hkk (hlow _ (by omega)), h.bel.trans ((hR.mono (K' := (· < w.heap.size)) (fun k _ h2 => by omega)).below h.bel.size), h.log.keeps hkk (hlow _ (by omega)),
    h.rs.keepsO hkk (fun k e => hlow k (h.rso k e)) hrow, hall, fun x hx => ?_, ?_, h.pb, h.bc, Nat.le_trans h.cw hR.size, h.rso⟩
  · rcases List.mem_append.1 hx with h2 | h2
    · exact h.may x h2
    · rw [List.mem_singleton.1 h2]; exact hX
  · rw [List.length_append, List.length_singleton]; exact Nat.succ_le_succ h.few
theorem TLd.el {w : World} {P b C : Nat} {x0 x1 : Int} {rv rv' : RecV} {d d' : RecD} {v1 : Value} {ds acc : List RecD} {v9 : Value} {m : Nat} {dX : RecD} {W W' : World} (h : TLd w P b C x0 x1 rv d v1 ds acc v9 m dX W) (he : TEl w b rv' d' W)
    (hk : ∀ K : Nat → Prop, (∀ k, v9.ownBlock = some k → ¬ K k) → Keeps K W W') : TEl w b rv' d' W' := by
  have hpb := h.pb
  have hbc := h.bc
  refine ⟨he.recm.keeps (hk (fun k => v9.ownBlock ≠ some k) (fun k e => fun h => h e)) fun k _ hr e => ?_, he.ok⟩
  obtain ⟨hC, _, cur, hc⟩ := h.all.own k e
  rcases hr with hr | hr
  · have : k < w.heap.size := hr
    omega
  · exact row_not_rec hr hc
theorem RecsF.nth {B : Nat} {w : World} {a : Option Addr} {n c : Nat} {ds : List RecD} (h : RecsF B w (.slice a n c) ds) (hn : n = ds.length) (j : Nat) (hj : j < n) :
    ∃ g lo rv, a = some ⟨g, lo, none⟩ ∧ g < w.heap.size ∧ w.rangeAt g (lo + j * 49) (recCells rv).toList ∧ RecFrom B w rv (ds.getD j {}) := by
  obtain ⟨rvs, h1, h2, h3⟩ := h
  obtain ⟨a', cap, e, hc, hx⟩ := ownsRow_form h2
  obtain ⟨rfl, _, _⟩ := Value.slice.inj e
  obtain ⟨g, ea, _, hg, hjj⟩ := hx (by omega)
  refine ⟨g, 0, rvs.getD j {}, ea, hg, fun i v hv => ?_, h3 j (by omega)⟩
  have hi : i < 49 := by
    have := (List.getElem?_eq_some_iff.1 hv).1
    rw [Array.length_toList, recCells_size] at this
    exact this
  have := flat49 rvs j i hi
  rw [if_pos (by omega), hv] at this
  rw [Nat.zero_add]
  exact hjj _ _ this
theorem yieldsIf_build_by {P : Program} {ops : Array Oper} {S : World → Prop} {op : Oper} {a : Act} (hw : Region.wanted op (yielded ops a.tmps) = true) (t : TypeId) (l : List (Nat × Operand)) (ho : op.op = .build t l.toArray)
    (ql : List (Nat × Value)) (hq : (l.map fun x => (x.1, a.eval x.2)) = ql) (v : Value) (hr : ∀ w, (Instr.build t ql.toArray).run P w = .ok v w) : YieldsIf P ops S op v a :=
  .inl ⟨hw, fun w _ => by
    subst hq
    unfold execOp
    simp only [ho]
    simp [hr]⟩
theorem fill_mid (off : Nat) (post : List Value) (D : List Value) : ∀ (k : Nat) (pre Z : List Value), Z.length = D.length → pre.length = off + k →
    ((D.zipIdx k).foldl (fun (cs : Array Value) (x : Value × Nat) => cs.setIfInBounds (off + x.2) x.1) (pre ++ Z ++ post).toArray) = (pre ++ D ++ post).toArray := by
  induction D with
  | nil => intro k pre Z h _; simp [List.eq_nil_of_length_eq_zero (by simpa using h)]
  | cons x D ih =>
    intro k pre Z h hp
    cases Z with
    | nil => simp at h
    | cons z Z =>
      rw [List.zipIdx_cons, List.foldl_cons]
      have e : ((pre ++ z :: Z ++ post).toArray.setIfInBounds (off + k) x) = ((pre ++ [x]) ++ Z ++ post).toArray := by
        rw [← hp]
        simp [List.set_append]
      have := ih (k + 1) (pre ++ [x]) Z (by simpa using h) (by simp [hp]; omega)
      show ((D.zipIdx (k + 1)).foldl _ ((pre ++ z :: Z ++ post).toArray.setIfInBounds (off + k) x)) = _
      rw [e, this]
      simp
theorem fill_two (Z A C : Array Value) (n : Nat) (hA : A.size = n) (hC : C.size = n) (hZ : Z.size = n + n) : Instr.fill (fun i => some (i * n, n)) Z [(0, Value.agg A), (1, Value.agg C)] = some (A ++ C) := by
  have h1 := fill_mid 0 (Z.toList.drop n) A.toList 0 [] (Z.toList.take n) (by simp [hA, hZ]) (by simp)
  have h2 := fill_mid n [] C.toList 0 A.toList (Z.toList.drop n) (by simp [hC, hZ]) (by simp [hA])
  have ha : (Value.agg A).cells = A := rfl
  have hc : (Value.agg C).cells = C := rfl
  have e1 : (A.zipIdx.foldl (fun (cs : Array Value) (x : Value × Nat) => cs.setIfInBounds (0 * n + x.2) x.1) Z) = (A.toList ++ Z.toList.drop n).toArray := by
    rw [← Array.foldl_toList, Array.toList_zipIdx, Nat.zero_mul]
    simpa using h1
  have e2 : (C.zipIdx.foldl (fun (cs : Array Value) (x : Value × Nat) => cs.setIfInBounds (1 * n + x.2) x.1) (A.toList ++ Z.toList.drop n).toArray) = A ++ C := by
    rw [← Array.foldl_toList, Array.toList_zipIdx, Nat.one_mul]
    apply Array.toList_inj.1
    simpa using congrArg Array.toList h2
  simp only [Instr.fill, ha, hc]
  rw [if_neg (by simp [hA, hZ]), e1, if_neg (by simp [hA, hC, hZ]), e2]
theorem build_two (A C : Array Value) (hA : A.size = 49) (hC : C.size = 49) (w : World) : (Instr.build 59 #[(0, .agg A), (1, .agg C)]).run Tryz.prog w = .ok (.agg (A ++ C)) w := by
  have u := Tryz.underlying59
  have hz : ∀ w, (zeroValue 59).run Tryz.prog w = .ok (.agg (recCells {} ++ recCells {})) w := fun w => by kernel_rfl
  have hs : ∀ w, (sizeOf 38).run Tryz.prog w = .ok 49 w := fun w => by kernel_rfl
  have hz2 : (recCells {} ++ recCells {}).size = 49 + 49 := by rw [Array.size_append, recCells_size]
  have hq : (Value.agg (recCells {} ++ recCells {})).cells = recCells {} ++ recCells {} := rfl
  have hf := fill_two _ A C 49 hA hC hz2
  simp only [Instr.build, Sem.run_bind, hz, Result.andThen_ok, run_underlying u, hs, Sem.run_pure, hq]
  rw [hf]
  rfl
theorem idx_rec (A C : Array Value) (hA : A.size = 49) (hC : C.size = 49) (t : Nat) (ht : t < 2) (w : World) : (Instr.index 59 (.agg (A ++ C)) (.int .i64 (t : Int))).run Tryz.prog w = .ok (.agg (if t = 0 then A else C)) w := by
  have u := Tryz.underlying59
  have hs : ∀ w, (sizeOf 38).run Tryz.prog w = .ok 49 w := fun w => by kernel_rfl
  have ha : ∀ w, (isAgg 38).run Tryz.prog w = .ok true w := fun w => by kernel_rfl
  have e : (A ++ C).extract (t * 49) (t * 49 + 49) = if t = 0 then A else C := by
    apply Array.toList_inj.1
    have : t = 0 ∨ t = 1 := by omega
    rcases this with rfl | rfl
    · simp [List.extract_eq_take_drop, hA, hC]
      exact List.take_of_length_le (by rw [Array.length_toList, hA]; exact Nat.le_refl _)
    · simp [List.extract_eq_take_drop, hA, hC]
      exact List.take_of_length_le (by rw [Array.length_toList, hC]; exact Nat.le_refl _)
  simp [Instr.index, go_sem, hs, asIntOf, u]
  rw [if_pos ht]
  rw [← Array.extract_append, e]
end Go.Proofs.YtkpmcjfolncmmaaGreatDoor
