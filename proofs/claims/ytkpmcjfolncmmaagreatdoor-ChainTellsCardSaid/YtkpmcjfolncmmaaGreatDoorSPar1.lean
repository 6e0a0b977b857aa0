/- chain.Parse, walked. -/
import Derived.Test.YtkpmcjfolncmmaaGreatDoorSPln6
import Derived.Test.YtkpmcjfolncmmaaGreatDoorSRd3
import Derived.Test.YtkpmcjfolncmmaaGreatDoorSRec2
import Derived.Deep.RegionHeld3
set_option linter.all false
namespace Go.Proofs.YtkpmcjfolncmmaaGreatDoor
open Go.RowKit
def RecsF (B : Nat) (w : World) (v : Value) (ds : List RecD) : Prop :=
  ∃ rvs : List RecV, rvs.length = ds.length ∧ w.ownsRow B 38 49 v ds.length (rvs.flatMap fun r => (recCells r).toList) ∧ ∀ j, j < ds.length → RecFrom B w (rvs.getD j {}) (ds.getD j {})
theorem RecsF.nil (B : Nat) (w : World) : RecsF B w (.slice none 0 0) [] := ⟨[], rfl, ⟨rfl, .inl ⟨rfl, rfl⟩⟩, fun j h => by simp at h⟩
theorem RecsF.on {B : Nat} {w w' : World} {v : Value} {ds : List RecD} (h : RecsF B w v ds) (hb : Below w.heap.size w w') : RecsF B w' v ds := by
  obtain ⟨rvs, h1, h2, h3⟩ := h
  exact ⟨rvs, h1, ownsRow_new h2 hb, fun j hj => (h3 j hj).on hb⟩
theorem RecsF.keeps {B : Nat} {K : Nat → Prop} {w w' : World} {v : Value} {ds : List RecD} (h : RecsF B w v ds) (hk : Keeps K w w') (hK : ∀ k, B ≤ k → K k) : RecsF B w' v ds := by
  obtain ⟨rvs, h1, h2, h3⟩ := h
  exact ⟨rvs, h1, ownsRow_keeps h2 hk hK, fun j hj => (h3 j hj).keeps hk hK⟩
theorem str_eq {a b : ByteArray} (h : a = b) : (a.toList == b.toList) = true := by rw [h]; exact beq_self_eq_true _
theorem str_ne {a b : ByteArray} (h : a ≠ b) : (a.toList == b.toList) = false := by
  rw [beq_eq_false_iff_ne]
  intro e
  rw [ByteArray.toList_eq, ByteArray.toList_eq] at e
  exact h (ByteArray.ext (Array.toList_inj.1 e))
theorem ownsRow_keepsO {base : Nat} {E : TypeId} {size : Nat} {w w' : World} {v : Value} {n : Nat} {xs : List Value} {K : Nat → Prop} (h : w.ownsRow base E size v n xs) (hk : Keeps K w w') (hK : ∀ k, v.ownBlock = some k → K k) : w'.ownsRow base E size v n xs := by
  obtain ⟨h1, h2⟩ := h
  refine ⟨h1, h2.imp_right ?_⟩
  rintro ⟨g, cap, cur, rfl, hg, hh, r⟩
  exact ⟨g, cap, cur, rfl, hg, (hk.block g (Array.getElem?_eq_some_iff.1 hh).1 (hK g rfl)).trans hh, r⟩
theorem RecsF.keepsO {B : Nat} {K : Nat → Prop} {w w' : World} {v : Value} {ds : List RecD} (h : RecsF B w v ds) (hk : Keeps K w w') (ho : ∀ k, v.ownBlock = some k → K k) (hK : ∀ k, RowBlock B w k → K k) : RecsF B w' v ds := by
  obtain ⟨rvs, h1, h2, h3⟩ := h
  exact ⟨rvs, h1, ownsRow_keepsO h2 hk ho, fun j hj => (h3 j hj).keepsT hk hK⟩
theorem RecsF.mono {B B' : Nat} {w : World} {v : Value} {ds : List RecD} (h : RecsF B w v ds) (hB : B' ≤ B) : RecsF B' w v ds := by
  obtain ⟨rvs, h1, h2, h3⟩ := h
  exact ⟨rvs, h1, ownsRow_mono h2 hB, fun j hj => (h3 j hj).mono hB⟩
theorem RecsF.own {B : Nat} {w : World} {v : Value} {ds : List RecD} (h : RecsF B w v ds) : ∀ k, v.ownBlock = some k → B ≤ k ∧ k < w.heap.size ∧ ∃ cur, w.heap[k]? = some (.cells cur 38 (0, 0)) := by
  obtain ⟨rvs, h1, ⟨_, h2⟩, h3⟩ := h
  intro k hk
  rcases h2 with ⟨rfl, _⟩ | ⟨g, cap, cur, rfl, hg, hh, _⟩
  · cases hk
  · have : g = k := by simpa [Value.ownBlock] using hk
    subst this
    exact ⟨hg, whole_lt hh, cur, hh⟩
theorem row_not_rec {B k : Nat} {w : World} {cur : Array Value} (h : RowBlock B w k) (hr : w.heap[k]? = some (.cells cur 38 (0, 0))) : False := by
  obtain ⟨_, c, h | h⟩ := h <;> (rw [hr] at h; simp at h)
theorem RecsF.snoc {B : Nat} {w w' : World} {v v' : Value} {ds : List RecD} {rvs : List RecV} {rv : RecV} {d : RecD} (h1 : rvs.length = ds.length) (h2 : w.ownsRow B 38 49 v ds.length (rvs.flatMap fun r => (recCells r).toList)) (h3 : ∀ j, j < ds.length → RecFrom B w (rvs.getD j {}) (ds.getD j {}))
    (hr : RecFrom B w rv d) (hk : ∀ K : Nat → Prop, (∀ k, v.ownBlock = some k → ¬ K k) → Keeps K w w')
    (hown : w'.ownsRow B 38 49 v' (ds.length + 1) ((rvs.flatMap fun r => (recCells r).toList) ++ (recCells rv).toList)) : RecsF B w' v' (ds ++ [d]) := by
  have ho := RecsF.own ⟨rvs, h1, h2, h3⟩
  have hkk := hk (fun k => v.ownBlock ≠ some k) (fun k e => fun h => h e)
  have hT : ∀ k, RowBlock B w k → v.ownBlock ≠ some k := fun k hb e => by
    obtain ⟨_, _, cur, hc⟩ := ho k e
    exact row_not_rec hb hc
  refine ⟨rvs ++ [rv], by simp [h1], ?_, fun j hj => ?_⟩
  · rw [List.length_append, List.flatMap_append]
    simpa using hown
  · by_cases e : j < ds.length
    · have e1 : (rvs ++ [rv]).getD j {} = rvs.getD j {} := by simp [List.getD_eq_getElem?_getD, List.getElem?_append_left (show j < rvs.length by omega)]
      have e2 : (ds ++ [d]).getD j {} = ds.getD j {} := by simp [List.getD_eq_getElem?_getD, List.getElem?_append_left e]
      rw [e1, e2]
      exact (h3 j e).keepsT hkk hT
    · have ej : j = ds.length := by rw [List.length_append] at hj; simp at hj; omega
      have e1 : (rvs ++ [rv]).getD j {} = rv := by simp [List.getD_eq_getElem?_getD, ej, ← h1]
      have e2 : (ds ++ [d]).getD j {} = d := by simp [List.getD_eq_getElem?_getD, ej]
      rw [e1, e2]
      exact hr.keepsT hkk hT
theorem Tryz.infoRec : (Tryz.prog.info? 38).map (fun i => (i.zero, i.size, i.bytes)) = some (some (.agg (recCells {})), 49, 216) := by kernel_rfl
def ParsePost (R : List RecD × Int × Nat) (w : World) (e : Ending) (w' : World) : Prop :=
  Below w.heap.size w w' ∧
  if R.2.1 = 0 then ∃ v, e = .returned (.tuple #[v, .nilIface]) ∧ RecsF w.heap.size w' v R.1
  else ∃ f, e = .returned (.tuple #[.slice none 0 0, .iface 141 (.pointer (some ⟨f, 0, none⟩))]) ∧ w.heap.size ≤ f ∧ w'.cell? ⟨f, 0, none⟩ = some (.int .i64 R.2.1) ∧ w'.cell? ⟨f, 1, none⟩ = some (.int .i64 0) ∧ w'.cell? ⟨f, 2, none⟩ = some (.int .i64 R.2.2)
def PInv (S : ByteArray → ByteArray) (w : World) (L : Nat) (R : List RecD × Int × Nat) (T gas : Nat) (v0 v2 : Value) (wr : World) : Prop :=
  ∃ (n : Nat) (t s : ByteArray) (acc : List RecD), v0 = .string t ∧ n ≤ gas ∧ t.size ≤ n ∧ parseA S n s t acc = R ∧ acc.length * 34 + t.size ≤ T ∧ RecsF (L + 1) wr v2 acc ∧ SumAt wr L s ∧ Below w.heap.size w wr
theorem longF_int (t : ByteArray) : getV t 0 2 = ((longF t : Nat) : Int) ∧ longF t ≤ 65535 := by
  have := getV_bound t 0 2 (by omega)
  simp at this
  rw [longF]
  omega
theorem par_fault {S : ByteArray → ByteArray} {m : Nat} {s t : ByteArray} {acc : List RecD} {c : Int} (h0 : ¬ t.size = 0) (hc : codeF S s t = c) (hne : c ≠ 0) : parseA S (m + 1) s t acc = ([], c, acc.length) := by
  subst hc
  rw [parseA, if_neg h0, if_neg hne]
theorem par_step {S : ByteArray → ByteArray} {m : Nat} {s t : ByteArray} {acc : List RecD} (h0 : ¬ t.size = 0) (hc : codeF S s t = 0) : parseA S (m + 1) s t acc = parseA S m (S (s ++ bodyF t)) (restF t) (acc ++ [(readF (bodyF t)).1]) := by
  rw [parseA, if_neg h0, if_pos hc]
theorem par_post {R : List RecD × Int × Nat} {w w2 : World} {c : Int} {n : Nat} (hR : R = ([], c, n)) (hne : c ≠ 0) (hb : Below w.heap.size w w2) (ty : TypeId) (e : Ending) (he : e = .returned (.tuple #[.slice none 0 0, .iface 141 (.pointer (some ⟨w2.heap.size, 0, none⟩))])) :
    ParsePost R w e (w2.alloc (.cells #[.int .i64 c, .int .i64 0, .int .i64 n] ty)) := by
  subst hR
  refine ⟨hb.trans ((new_alloc w2 _).mono hb.size), ?_⟩
  rw [if_neg hne]
  exact ⟨_, he, hb.size, cell_new _ _ _ 0, cell_new _ _ _ 1, cell_new _ _ _ 2⟩
set_option maxHeartbeats 2000000 in
set_option maxRecDepth 100000 in
theorem parse_any (t : ByteArray) (hts : t.size ≤ 1000000) (F : S8) (K : Nat → Int) (kk : Array Value) (w : World) (ht : ShaTabs F K kk w) :
    Calls Tryz.prog 43 #[.string t] w (ParsePost (parseF (sumB K F) t) w) := by
  obtain ⟨R, hR⟩ : ∃ R, R = parseF (sumB K F) t := ⟨_, rfl⟩
  rw [← hR]
  obtain ⟨L, hL⟩ : ∃ x, x = w.heap.size := ⟨_, rfl⟩
  obtain ⟨w1, hw1⟩ : ∃ z, z = w.alloc (.cells (Array.replicate 32 (.int .u8 0)) 102) := ⟨_, rfl⟩
  have HT := aside ht
  have HLw : Aside (w.heap.size ≤ L) := Nat.le_of_eq hL.symm
  obtain ⟨T, hT⟩ : ∃ x, x = t.size := ⟨_, rfl⟩
  have HTS : Aside (T ≤ 1000000) := by rw [hT]; exact hts
  have HI : Aside (PInv (sumB K F) w L R T T (.string t) (.slice none 0 0) w1) := by
    have hn : Below w.heap.size w w1 := by rw [hw1]; exact new_alloc _ _
    refine ⟨T, t, zero32, [], rfl, Nat.le_refl _, by omega, by rw [hR, parseF, ← hT], by simp; omega, RecsF.nil _ _, ?_, hn⟩
    rw [hw1, hL]
    refine ⟨zero32_size, fun j hj => ?_, fun j => frozen_new _ _ _ j⟩
    rw [cell_new, zero32_byte, Array.getElem?_replicate, if_pos hj]
  clear ht hts hR
  go_enter Tryz.func43, Tryz.ntmps43
  go_wp2_with fail
  rw [show (#[.int .u8 0, .int .u8 0, .int .u8 0, .int .u8 0, .int .u8 0, .int .u8 0, .int .u8 0, .int .u8 0, .int .u8 0, .int .u8 0, .int .u8 0, .int .u8 0, .int .u8 0, .int .u8 0, .int .u8 0, .int .u8 0, .int .u8 0, .int .u8 0, .int .u8 0, .int .u8 0, .int .u8 0, .int .u8 0, .int .u8 0, .int .u8 0, .int .u8 0, .int .u8 0, .int .u8 0, .int .u8 0, .int .u8 0, .int .u8 0, .int .u8 0, .int .u8 0] : Array Value) = Array.replicate 32 (.int .u8 0) from rfl, ← hw1, ← hL]
  clear hw1 hL hT
  go_loopg [0, 2] T (fun g v0 v2 wr => PInv (sumB K F) w L R T g v0 v2 wr)
  case atStart => exact HI.out
  case round =>
    clear HI
    obtain ⟨n, t, s, acc, rfl, hgas, htn, hpa, hlen, hrs, hsum, hb⟩ := hrel
    obtain ⟨av, cv, rfl⟩ : ∃ av cv, u2 = .slice av acc.length cv := by
      obtain ⟨_, _, h2, _⟩ := hrs
      obtain ⟨a, cap, e, _⟩ := ownsRow_form h2
      exact ⟨a, cap, e⟩
    have HOW0 : Aside (∀ k, (Value.slice av acc.length cv).ownBlock = some k → k < wr.heap.size) := fun k hk => (hrs.own k hk).2.1
    have HRS := aside hrs
    have HSUM := aside hsum
    have HB := aside hb
    have HPA := aside hpa
    have HLEN := aside hlen
    have hal : acc.length ≤ 1000000 := by have := HTS.out; omega
    obtain ⟨na, hna⟩ : ∃ na, na = acc.length := ⟨_, rfl⟩
    rw [← hna] at hal ⊢
    have HNA := aside hna
    clear hrs hsum hb hpa hlen hna
    by_cases h0 : t.size = 0
    · have HE : Aside (R = (acc, 0, 0)) := by rw [Aside, ← HPA.out, parse_zero _ _ _ _ _ h0]
      have hpos : ¬ (0 : Int) < t.size := by omega
      clear h0 hgas htn
      go_wp2_with fail
      go_ret2
      rw [HE.out]
      refine ⟨HB.out, ?_⟩
      rw [if_pos rfl]
      exact ⟨_, rfl, by rw [HNA.out]; exact HRS.out.mono (Nat.le_succ_of_le HLw.out)⟩
    · obtain ⟨m, rfl⟩ : ∃ m, n = m + 1 := ⟨n - 1, by omega⟩
      have hpos : (0 : Int) < t.size := by omega
      have HH0 := aside h0
      have HSZ : Aside (t.size ≤ 1000000) := by have := HLEN.out; have := HTS.out; rw [Aside]; omega
      have HTN := aside htn
      have HGAS := aside hgas
      clear h0 htn hgas
      go_wp2_with fail
      refine (get_any t (by have := HSZ.out; omega) 0 2 wr).mono ?_
      rintro e w2 ⟨rfl, hw2⟩
      rw [hw2, (longF_int t).1]
      obtain ⟨N, hN⟩ : ∃ N, N = longF t := ⟨_, rfl⟩
      have hN6 := (longF_int t).2
      rw [← hN] at hN6 ⊢
      have HN := aside hN
      clear hw2 hN
      have hts := HSZ.out
      go_upto_region 7 with fail
      obtain ⟨X, hX⟩ : ∃ x, x = wr.heap.size := ⟨_, rfl⟩
      obtain ⟨w3, hw3⟩ : ∃ z, z = wr.alloc (.cells (recCells {}) 38) := ⟨_, rfl⟩
      have hn3 : Below wr.heap.size wr w3 := by rw [hw3]; exact new_alloc _ _
      have HX3 : Aside (RecIn w3 X {}) := by rw [hw3, hX]; exact RecIn.box _ _
      have HXL : Aside (X ≠ L ∧ w.heap.size ≤ X) := by have := HSUM.out.lt; have := HB.out.size; rw [Aside]; omega
      have HOW : Aside (∀ k, (Value.slice av acc.length cv).ownBlock = some k → k < X) := by rw [hX]; exact HOW0.out
      have HRS3 := aside (HRS.out.on hn3)
      have HSUM3 := aside (HSUM.out.on hn3)
      have HB3 := aside (HB.out.trans (hn3.mono HB.out.size))
      rw [zR, ← hw3, ← hX]
      clear hn3 hw3 hX HRS HSUM HB
      by_cases hle : 34 + N ≤ t.size
      case neg =>
        have HC : Aside (R = ([], 14, acc.length)) := by rw [Aside, ← HPA.out]; exact par_fault HH0.out (code_short _ _ (by rw [← HN.out]; omega)) (by decide)
        have e1 : ¬ (34 + (N : Int)) ≤ t.size := by omega
        clear hle
        go_wp2_with fail
        go_ret2
        exact par_post (by rw [HC.out, HNA.out]) (by decide) HB3.out _ _ rfl
      obtain ⟨bd, hbd⟩ : ∃ bd, bd = t.extract 2 (2 + N) := ⟨_, rfl⟩
      have HBD : Aside (bd = bodyF t) := by rw [Aside, hbd, HN.out, bodyF]
      have hle1 : (34 + (N : Int)) ≤ t.size := by omega
      go_upto_region 10 with fail
      rw [← hbd]
      have HT3 := aside (HT.out.on HB3.out)
      have hbz : bd.size ≤ 1099511627776 := by rw [hbd, ByteArray.size_extract]; omega
      have HBZ := aside hbz
      obtain ⟨sm, hsm⟩ : ∃ sm, sm = t.extract (2 + N) (34 + N) := ⟨_, rfl⟩
      have HSM := aside hsm
      have e2 : IntKind.i64.wrap (2 + (N : Int)) = 2 + (N : Int) := IntWalk.i64_in _ (by omega)
      have e3 : IntKind.i64.wrap (34 + (N : Int)) = 34 + (N : Int) := IntWalk.i64_in _ (by omega)
      have n2 : (2 + (N : Int)).toNat = 2 + N := by omega
      have n3 : (34 + (N : Int)).toNat = 34 + N := by omega
      have q1 : (0 : Int) ≤ 2 + N := by omega
      have q2 : (2 + (N : Int)) ≤ 34 + N := by omega
      clear hbd hsm hbz hle
      go_region_held3 (fun _ => True) (exact trivial) (first
        | (go_at_call 72
           refine (next_any L s bd ?_ F K kk _ ?_ ?_).mono ?_
           · exact HBZ.out
           · first | exact HT3.out | exact HT3.out.on (new_drew _)
           · first | exact HSUM3.out | exact HSUM3.out.on (new_drew _)
           rintro e w4 ⟨rfl, hk4, hs4, ho4⟩))
      have hkk : Keeps (· ≠ L) w3 w4 := (keeps_of_new (new_drew w3) _).trans hk4
      have HRS4 := aside (HRS3.out.keeps hkk (fun k hk => by omega))
      have HX4 := aside (HX3.out.keeps hkk HXL.out.1)
      have HB4 := aside (new_of_keeps HB3.out hkk HLw.out)
      have HSUM4 := aside hs4
      have HBX : Aside (X < w4.heap.size) := HX4.out.lt
      have HLW4 : Aside (L < w4.heap.size) := hs4.lt
      obtain ⟨u, hu⟩ : ∃ u, u = sumB K F (s ++ bd) := ⟨_, rfl⟩
      rw [← hu] at HSUM4 ⊢
      rw [← HSM.out]
      have HU := aside hu
      clear hkk hk4 hs4 ho4 hu e2 e3 n2 n3 q1 q2 HRS3 HSUM3 HX3
      by_cases hq : u = sm
      case neg =>
        have HC : Aside (R = ([], 21, acc.length)) := by
          rw [Aside, ← HPA.out]
          refine par_fault HH0.out ?_ (by decide)
          rw [codeF, if_neg (by rw [← HN.out]; omega), if_neg]
          rw [← HN.out, ← HBD.out, ← HU.out, ← HSM.out]
          exact hq
        rw [str_ne hq]
        clear hq
        go_wp2_with fail
        go_ret2
        exact par_post (by rw [HC.out, HNA.out]) (by decide) HB4.out _ _ rfl
      rw [str_eq hq]
      have HCODE : Aside (codeF (sumB K F) s t = (readF bd).2) := by
        rw [Aside, codeF, if_neg (by rw [← HN.out]; omega), if_pos, ← HBD.out]
        rw [← HN.out, ← HBD.out, ← HU.out, ← HSM.out]
        exact hq
      clear hq
      go_wp2_with fail
      refine (read_rec bd (by have := HBZ.out; omega) w4).mono ?_
      rintro e w5 ⟨rv, rfl, hrf, hb5⟩
      have HR5 := aside hrf
      have HX5 := aside (HX4.out.new hb5)
      have HRS5 := aside (HRS4.out.on hb5)
      have HSUM5 := aside (HSUM4.out.on hb5)
      have HB5 := aside (HB4.out.trans (hb5.mono HB4.out.size))
      have HBX5 : Aside (w4.heap.size ≤ w5.heap.size) := hb5.size
      have hone := hrf.one
      have hi0 : (Tryz.prog.info? 38).map (·.size) = some (recCells rv).size := by rw [recCells_size]; kernel_rfl
      obtain ⟨w6, hw6⟩ : ∃ z, z = w5.setRow X (recCells rv) := ⟨_, rfl⟩
      have hk6 : Keeps (· ≠ X) w5 w6 := by rw [hw6]; exact keeps_setRow w5 X _ (fun h => h rfl)
      have HX6 : Aside (RecIn w6 X rv) := by rw [hw6]; exact HX5.out.setRow rv
      have HOB : Aside (∀ k, (Value.slice av acc.length cv).ownBlock = some k → k < X) := HOW.out
      have HRS6 := aside (HRS5.out.keepsO hk6 (fun k hk => Nat.ne_of_lt (HOB.out k hk)) (fun k hb e => by subst e; exact row_not_rec hb HX5.out))
      have HR6 := aside (HR5.out.keeps hk6 (fun k hk => by have := HBX.out; omega))
      have HSUM6 := aside (HSUM5.out.keeps hk6 (Ne.symm HXL.out.1))
      have HB6 := aside (new_of_keeps HB5.out hk6 HXL.out.2)
      have HS6 : Aside (w5.heap.size ≤ w6.heap.size) := hk6.size
      have HW6 := aside hw6
      obtain ⟨cd, hcd⟩ : ∃ cd, cd = (readF bd).2 := ⟨_, rfl⟩
      obtain ⟨d, hd⟩ : ∃ d, d = (readF bd).1 := ⟨_, rfl⟩
      rw [← hd] at HR6
      rw [← hcd] at HCODE ⊢
      have HD := aside hd
      clear hrf hb5 hw6 hk6 hcd hd HRS4 HX4 HSUM4 HB4 HR5 HRS5 HSUM5 HB5
      by_cases hc0 : cd = 0
      case neg =>
        have HC : Aside (R = ([], cd, acc.length)) := by rw [Aside, ← HPA.out]; exact par_fault HH0.out HCODE.out hc0
        have ec : (cd != 0) = true := by simpa using hc0
        have HC0 := aside hc0
        clear hc0
        go_wp2_with (first
          | (refine wpList_store_row rfl _ _ _ rfl X (recCells rv) rfl rfl 38 _ HX5.out hi0 rfl hone ?_; rw [← HW6.out])
          | fail)
        go_ret2
        exact par_post (by rw [HC.out, HNA.out]) HC0.out HB6.out _ _ rfl
      subst hc0
      have HSTEP : Aside (parseA (sumB K F) m u (restF t) (acc ++ [d]) = R) := by rw [Aside, ← HPA.out, par_step HH0.out HCODE.out, ← HBD.out, ← HU.out, ← HD.out]
      go_upto_region 12 with (first
        | (refine wpList_store_row rfl _ _ _ rfl X (recCells rv) rfl rfl 38 _ HX5.out hi0 rfl hone ?_; rw [← HW6.out])
        | fail)
      obtain ⟨D, hD⟩ : ∃ D, D = recCells rv := ⟨_, rfl⟩
      have HDX : Aside (w6.heap[X]? = some (.cells D 38 (0, 0))) := by rw [hD]; exact HX6.out
      have hiD : (Tryz.prog.info? 38).map (·.size) = some D.size := by rw [hD]; exact hi0
      have HDD := aside hD
      rw [← hD]
      clear hD hone hi0
      go_upto_region 14 with fail
      obtain ⟨rvs, hv1, hv2, hv3⟩ := HRS6.out
      have HV1 := aside hv1
      have HV2 : Aside (w6.ownsRow (L + 1) 38 49 (.slice av na cv) na (rvs.flatMap fun r => (recCells r).toList)) := by rw [HNA.out]; exact hv2
      have HV3 := aside hv3
      have HL6 : Aside (L + 1 ≤ w6.heap.size) := HSUM6.out.lt
      have HONE : Aside (D.all (·.oneCell') = true) := by rw [HDD.out]; exact HR6.out.one
      have HD49 : Aside (D.size = 49) := by rw [HDD.out]; exact recCells_size rv
      clear hv1 hv2 hv3
      go_wp2_with (first
        | (refine wpList_load_row rfl _ _ rfl X rfl _ D (0, 0) _ HDX.out Tryz.underlying38 rfl hiD ?_)
        | (refine wpList_slice_by rfl 48 1 _ rfl (.agg D) _ rfl (rec_slice D HD49.out w6) ?_)
        | (at_builtin; refine wpList_append_one rfl _ _ 48 38 rfl (.agg (recCells {})) 49 216 Tryz.underlying48 Tryz.infoRec rfl (by decide) (L + 1) _ na _ rfl (World.ownsRow.alloc HV2.out _) w6.heap.size D.toList ?c1 ?c2 rfl ?c3 ?c4 ?c5 ?c6 ?_)
        | fail)
      case c1 => rw [Array.length_toList]; exact HD49.out
      case c2 => intro y hy; exact (Array.all_eq_true_iff_forall_mem.1 HONE.out) y (by simpa using hy)
      case c3 => intro j y hy; rw [cell_new]; simpa using hy
      case c4 => unfold maxLen; omega
      case c5 => omega
      case c6 => have := HL6.out; simp; omega
      intro v' w8 hown' hgrow
      have hkg : ∀ K : Nat → Prop, (∀ k, (Value.slice av na cv).ownBlock = some k → ¬ K k) → Keeps K w6 w8 := fun K hK => (keeps_of_new (new_alloc w6 (.cells D 38)) K).trans (keeps_grown hgrow K hK)
      have HRS8 : Aside (RecsF (L + 1) w8 v' (acc ++ [d])) := by
        refine RecsF.snoc (w := w6) (v := .slice av na cv) HV1.out (by rw [← HNA.out]; exact HV2.out) HV3.out (HR6.out.mono (by have := HLW4.out; omega)) hkg ?_
        rw [← HNA.out, ← HDD.out]
        exact hown'
      have hob : ∀ k, (Value.slice av na cv).ownBlock = some k → L + 1 ≤ k := fun k hk => (World.ownsRow.lt HV2.out k hk).1
      have HSUM8 := aside (HSUM6.out.keeps (hkg (· ≤ L) (fun k hk => by have := hob k hk; omega)) (Nat.le_refl L))
      have HB8 : Aside (Below w.heap.size w w8) := HB6.out.trans (((hkg (· < w.heap.size) (fun k hk => by have := hob k hk; have := HLw.out; omega)).below HB6.out.size))
      clear hown' hgrow hkg hob
      have e34 : IntKind.i64.wrap (34 + (N : Int)) = 34 + (N : Int) := IntWalk.i64_in _ (by omega)
      go_wp2_with fail
      go_roundg m
      case measure => have := HGAS.out; omega
      case rel =>
        refine ⟨m, restF t, u, acc ++ [d], ?_, Nat.le_refl _, ?_, HSTEP.out, ?_, HRS8.out, HSUM8.out, HB8.out⟩
        · rw [restF, ← HN.out]
        · have h1 := restF_size t (by rw [← HN.out]; omega)
          have := HTN.out
          omega
        · have h1 := restF_size t (by rw [← HN.out]; omega)
          have := HLEN.out
          rw [List.length_append, List.length_cons, List.length_nil]
          omega
end Go.Proofs.YtkpmcjfolncmmaaGreatDoor
