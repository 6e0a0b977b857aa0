/- consignlaw31's works, walked. -/
import Derived.Test.YtfnekbfcndkjeaaGreatDoorSMdt1
import Derived.Test.YtfnekbfcndkjeaaGreatDoorSMdsl
import Derived.OwnWalk
set_option linter.all false
namespace Go.Proofs.YtfnekbfcndkjeaaGreatDoor
open Go.RowKit Go.Maps
theorem owners_any {S : Nat → Prop} {n : Nat} {w : World} {p : Nat} {st : MSt} (h : ModAt S n w p st) : Calls Tryz.prog 21 #[.pointer (some ⟨p, 0, none⟩)] w (ClonePost 3 1 st.owners.length (st.owners.map (Value.int .i64)) w) := by
  obtain ⟨⟨v, hv⟩, hw, _⟩ := h
  have c := hv.here.owners
  have HSRC := aside hv.owners.row.src
  have hl : st.owners.length ≤ 1000000000 := Nat.le_trans hw.nown (by decide)
  clear hv hw
  go_enter Tryz.func21, Tryz.ntmps21
  go_wp2_with fail
  refine (clone_ints w _ _ _ hl HSRC.out).mono ?_
  rintro e w1 ⟨nv, rfl, hnv, hb⟩
  have HNV := aside hnv
  have HB := aside hb
  clear hnv hb
  go_wp2_with fail
  go_ret
  exact ⟨nv, rfl, HNV.out, HB.out⟩
theorem IsO.src {S : Nat → Prop} {w : World} {v : Value} {xs : List OutT} (h : IsO S w v xs) : Src w v xs.length 3 (outCells xs) := by
  obtain ⟨a, cap, e, hc, hx⟩ := ownsRow_form h.1
  refine ⟨a, cap, e, outCells_len xs, fun u hu => by obtain ⟨z, _, hz⟩ := List.mem_flatMap.1 hu; rcases List.mem_cons.1 hz with rfl | hz; rfl; rcases List.mem_cons.1 hz with rfl | hz; rfl; obtain rfl := List.mem_singleton.1 hz; rfl, fun h0 => ?_⟩
  obtain ⟨g, ea, _, hg, hj⟩ := hx h0
  exact ⟨g, 0, ea, hg, fun j u hu => by rw [Nat.zero_add]; exact hj j u hu⟩
theorem outcomes_any {S : Nat → Prop} {n : Nat} {w : World} {p : Nat} {st : MSt} (h : ModAt S n w p st) (hn : n < 1000000000) : Calls Tryz.prog 23 #[.pointer (some ⟨p, 0, none⟩)] w (ClonePost 46 3 st.outs.length (outCells st.outs) w) := by
  obtain ⟨⟨v, hv⟩, hw, _⟩ := h
  have c := hv.here.outs
  have HSRC := aside hv.outs.src
  have hl : st.outs.length ≤ 1000000000 := Nat.le_trans hv.nout (by omega)
  clear hv hw
  go_enter Tryz.func23, Tryz.ntmps23
  go_wp2_with fail
  refine (clone_outs w _ _ _ hl HSRC.out).mono ?_
  rintro e w1 ⟨nv, rfl, hnv, hb⟩
  have HNV := aside hnv
  have HB := aside hb
  clear hnv hb
  go_wp2_with fail
  go_ret
  exact ⟨nv, rfl, HNV.out, HB.out⟩
theorem ended_any {S : Nat → Prop} {n : Nat} {w : World} {p : Nat} {st : MSt} (h : ModAt S n w p st) : Calls Tryz.prog 24 #[.pointer (some ⟨p, 0, none⟩)] w fun e w' => e = .returned (.bool st.ended) ∧ ∃ m, w' = w.drewN m := by
  obtain ⟨⟨v, hv⟩, hw, _⟩ := h
  have c : w.cell? ⟨p, 55, none⟩ = some (.bool st.ended) := by rw [← hv.ended]; exact hv.here.ended
  clear hv hw
  go_enter Tryz.func24, Tryz.ntmps24
  go_wp2_with fail
  go_ret
  exact ⟨rfl, 0, rfl⟩
theorem state_any {S : Nat → Prop} {n : Nat} {w : World} {p : Nat} {st : MSt} (h : ModAt S n w p st) (lot : Int) (hl : -9223372036854775808 ≤ lot ∧ lot ≤ 9223372036854775807) (x : Int) (hx : x = if 0 ≤ lot ∧ lot < st.states.length then st.states.getD lot.toNat 0 else -1) :
    Calls Tryz.prog 28 #[.pointer (some ⟨p, 0, none⟩), .int .i64 lot] w fun e w' => e = .returned (.int .i64 x) ∧ ∃ m, w' = w.drewN m := by
  obtain ⟨⟨v, hv⟩, hw, _⟩ := h
  have c := hv.here.states
  obtain ⟨a, cap, e, hf⟩ := hv.states.form
  rw [e] at c
  obtain ⟨ns, hns⟩ : ∃ q, q = st.states.length := ⟨_, rfl⟩
  have hnb : ns ≤ 1000000 := by rw [hns, hw.lens]; exact Nat.le_trans hw.nlots (by decide)
  rw [← hns] at c hx hf
  have HX := aside hx
  have HF := aside hf
  clear hv hw e hx hf hns
  by_cases h0 : lot < 0
  · have HE : Aside (x = -1) := by rw [Aside, HX.out, if_neg (by omega)]
    go_enter Tryz.func28, Tryz.ntmps28
    go_wp2_with fail
    go_ret
    rw [HE.out]
    exact ⟨rfl, 0, rfl⟩
  have hd0 : decide (lot < 0) = false := by simpa using h0
  by_cases h1 : (ns : Int) ≤ lot
  · have HE : Aside (x = -1) := by rw [Aside, HX.out, if_neg (by omega)]
    go_enter Tryz.func28, Tryz.ntmps28
    go_wp2_with fail
    go_ret
    rw [HE.out]
    exact ⟨rfl, 0, rfl⟩
  have hd1 : decide ((ns : Int) ≤ lot) = false := by simpa using h1
  obtain ⟨k, rfl⟩ : ∃ k : Nat, lot = k := Int.eq_ofNat_of_zero_le (by omega)
  have hkn : k < ns := by omega
  obtain ⟨g, rfl, _, _, hj⟩ := HF.out (by omega)
  have cg := hj k hkn
  have HE : Aside (x = st.states.getD k 0) := by rw [Aside, HX.out, if_pos (by omega), Int.toNat_natCast]
  clear h0 h1 hj HF
  go_enter Tryz.func28, Tryz.ntmps28
  go_wp2_with fail
  go_ret
  rw [HE.out]
  exact ⟨rfl, 0, rfl⟩
theorem take_nil (rv : RecV) (w : World) : Calls Tryz.prog 17 #[.pointer none, .agg (recCells rv)] w fun e w' => e = .returned (.int .i64 1) ∧ Below w.heap.size w w' := by
  obtain ⟨w0, hw0⟩ : ∃ z, z = w.alloc (.cells (recCells rv) 49) := ⟨_, rfl⟩
  have HN0 : Aside (Below w.heap.size w w0) := by rw [hw0]; exact new_alloc _ _
  go_enter Tryz.func17, Tryz.ntmps17
  go_upto_region 1 with fail
  rw [← hw0]
  clear hw0
  go_wp2_with fail
  go_ret
  exact ⟨rfl, HN0.out⟩
theorem owners_nil (w : World) : Calls Tryz.prog 21 #[.pointer none] w fun e w' => e = .returned (.slice none 0 0) ∧ w' = w := by
  go_enter Tryz.func21, Tryz.ntmps21
  go_wp2_with fail
  go_ret
  exact ⟨rfl, rfl⟩
theorem outcomes_nil (w : World) : Calls Tryz.prog 23 #[.pointer none] w fun e w' => e = .returned (.slice none 0 0) ∧ w' = w := by
  go_enter Tryz.func23, Tryz.ntmps23
  go_wp2_with fail
  go_ret
  exact ⟨rfl, rfl⟩
theorem ended_nil (w : World) : Calls Tryz.prog 24 #[.pointer none] w fun e w' => e = .returned (.bool false) ∧ w' = w := by
  go_enter Tryz.func24, Tryz.ntmps24
  go_wp2_with fail
  go_ret
  exact ⟨rfl, rfl⟩
theorem state_nil (lot : Int) (w : World) : Calls Tryz.prog 28 #[.pointer none, .int .i64 lot] w fun e w' => e = .returned (.int .i64 (-1)) ∧ w' = w := by
  go_enter Tryz.func28, Tryz.ntmps28
  go_wp2_with fail
  go_ret
  exact ⟨rfl, rfl⟩
end Go.Proofs.YtfnekbfcndkjeaaGreatDoor
namespace Go.Proofs.YtfnekbfcndkjeaaGreatDoor
open Go.RowKit Go.Maps
def failM (opf : List Int → RecD → Bool) : MSt → List RecD → Nat → Option (Int × Nat)
  | _, [], _ => none
  | st, d :: ds, i => if (takeM opf st d).1 = 0 then failM opf (takeM opf st d).2 ds (i + 1) else some ((takeM opf st d).1, i)
def PlayPost (opf : List Int → RecD → Bool) (ds : List RecD) (w : World) (e : Ending) (w' : World) : Prop :=
  Below w.heap.size w w' ∧
    ((failM opf {} ds 0 = none ∧ ∃ u v, e = .returned (.tuple #[u, v, .nilIface]) ∧ w'.ownsRow w.heap.size 3 1 u (playM opf {} ds).owners.length ((playM opf {} ds).owners.map (Value.int .i64)) ∧
        w'.ownsRow w.heap.size 46 3 v (playM opf {} ds).outs.length (outCells (playM opf {} ds).outs)) ∨
     ∃ c i f, failM opf {} ds 0 = some (c, i) ∧ e = .returned (.tuple #[.slice none 0 0, .slice none 0 0, .iface 104 (.pointer (some ⟨f, 0, none⟩))]) ∧ w.heap.size ≤ f ∧
        w'.heap[f]? = some (.cells #[.int .i64 c, .int .i64 0, .int .i64 i] 85 (0, 0)))
def PlayAt (opf : List Int → RecD → Bool) (ds : List RecD) (P : MSt → Prop) (w : World) (p k : Nat) (wr : World) : Prop :=
  Below w.heap.size w wr ∧ failM opf {} ds 0 = failM opf (playM opf {} (ds.take k)) (ds.drop k) k ∧ P (playM opf {} (ds.take k)) ∧ ∃ S : Nat → Prop, ModAt S k wr p (playM opf {} (ds.take k)) ∧ (∀ j, S j → j < wr.heap.size) ∧ ∀ j, S j → w.heap.size ≤ j
theorem RecAt.one {w : World} {v : RecV} {d : RecD} (h : RecAt w v d) : (recCells v).all (·.oneCell') = true := by
  obtain ⟨b, l, o, rfl, ⟨a1, c1, rfl, _⟩, ⟨a2, c2, rfl, _⟩, ⟨a3, c3, rfl, _⟩⟩ := h
  exact recCells_one _ rfl rfl rfl
theorem playM_take1 (opf : List Int → RecD → Bool) (st : MSt) (ds : List RecD) (k : Nat) (hk : k < ds.length) : playM opf st (ds.take (k + 1)) = (takeM opf (playM opf st (ds.take k)) (ds.getD k {})).2 := by
  unfold playM
  rw [take_succ_getD ds k hk, List.foldl_append]
  rfl
theorem failM_at (opf : List Int → RecD → Bool) (st : MSt) (ds : List RecD) (k : Nat) (hk : k < ds.length) : failM opf st (ds.drop k) k = if (takeM opf st (ds.getD k {})).1 = 0 then failM opf (takeM opf st (ds.getD k {})).2 (ds.drop (k + 1)) (k + 1) else some ((takeM opf st (ds.getD k {})).1, k) := by
  rw [List.drop_eq_getElem_cons hk, List.getD_eq_getElem?_getD, List.getElem?_eq_getElem hk]
  rfl
set_option maxHeartbeats 4000000 in
set_option maxRecDepth 100000 in
theorem play_any (opf : List Int → RecD → Bool) (P : MSt → Prop) (hP0 : P {}) (w : World) (v : Value) (ds : List RecD) (hds : ds.length < 1000000000) (h : RecsAt w v ds) (hok : ∀ d ∈ ds, d.ok) (hPs : ∀ st d, P st → d ∈ ds → P (takeM opf st d).2)
    (hrev : ∀ W S n p st rv d, Below w.heap.size w W → P st → d ∈ ds → RevOk opf S n W p st rv d) : Calls Tryz.prog 19 #[v] w (PlayPost opf ds w) := by
  obtain ⟨a, cap, rvs, rfl, hcap, hrw, hra⟩ := h
  have HRW := aside hrw
  have HRA := aside hra
  have HOK := aside hok
  have HPS := aside hPs
  have HREV := aside hrev
  obtain ⟨n, hn⟩ : ∃ n, n = ds.length := ⟨_, rfl⟩
  have HNN := aside hn
  have hn9 : n < 1000000000 := by rw [hn]; exact hds
  have hP00 := aside hP0
  rw [← hn]
  clear hrw hra hok hPs hrev hn hds hcap hP0
  go_enter Tryz.func19, Tryz.ntmps19
  go_wp2_with fail
  refine (new_mod w).mono ?_
  rintro e w1 ⟨rfl, hw1⟩
  obtain ⟨p, hp⟩ : ∃ x, x = w.heap.size := ⟨_, rfl⟩
  have HP1 : Aside (PlayAt opf ds P w p 0 w1) := by
    refine ⟨by rw [hw1]; exact new_alloc _ _, by simp [playM], by simpa [playM] using hP00.out, _, by simpa [playM, hp] using new_modAt hw1, fun j hj => ?_, fun j hj => ?_⟩
    · rw [hj, hw1]; simp
    · exact Nat.le_of_eq hj.symm
  rw [← hp]
  clear hw1 hp
  go_wp2_with fail
  go_loopg [12] n (fun g v12 wr => ∃ k : Nat, k ≤ n ∧ v12 = .int .i64 k ∧ n - k ≤ g ∧ Aside (PlayAt opf ds P w p k wr))
  case atStart => exact ⟨0, Nat.zero_le _, rfl, by omega, HP1.out⟩
  case round =>
    clear HP1
    obtain ⟨k, hk, rfl, hg, HA⟩ := hrel
    by_cases hlt : k < n
    · have hki : (k : Int) < n := by omega
      obtain ⟨hbr, hfl, hpk, S, hmd, hSs, hSb⟩ := HA.out
      have HBR := aside hbr
      have HFL := aside hfl
      have HPK := aside hpk
      have HMD := aside hmd
      have HSS := aside hSs
      have HSB := aside hSb
      have HM : Aside (n - (k + 1) < gk ∧ k + 1 ≤ n) := ⟨by omega, hlt⟩
      obtain ⟨lb, lo, rfl, hlb, hj⟩ := HRW.out (by rw [← HNN.out]; omega)
      have HRG := aside (rangeAt_on (hj k (by rw [← HNN.out]; exact hlt)) hlb HBR.out)
      obtain ⟨rv, hrv⟩ : ∃ rv, rv = rvs k := ⟨_, rfl⟩
      rw [← hrv] at HRG
      obtain ⟨d, hd⟩ : ∃ d, d = ds.getD k {} := ⟨_, rfl⟩
      have HDD := aside hd
      have hmem : d ∈ ds := by
        rw [hd, List.getD_eq_getElem?_getD, List.getElem?_eq_getElem (show k < ds.length by rw [← HNN.out]; exact hlt)]
        exact List.getElem_mem _
      have HRV : Aside (RecAt w rv d) := by rw [hrv, hd]; exact HRA.out k (by rw [← HNN.out]; exact hlt)
      have HKD : Aside (k < ds.length) := by rw [← HNN.out]; exact hlt
      have HMEM := aside hmem
      have hi0 : (Tryz.prog.info? 49).map (·.size) = some (recCells rv).toList.length := by rw [Array.length_toList, recCells_size]; kernel_rfl
      clear hj hrv hmem hd hg hbr hfl hpk hmd hSs hSb
      have hon := RecAt.one HRV.out
      have hi49 : (Tryz.prog.info? 49).map (·.size) = some (recCells rv).size := by rw [recCells_size]; kernel_rfl
      go_upto_region 5 with (first
        | (refine wpList_load_midG (by rfl) _ _ rfl lb (lo + k * 49) rfl _ _ HRG.out Tryz.underlying49 rfl hi0 (recCells rv) (Array.toArray_toList) ?_)
        | (refine wpList_store_row rfl _ _ _ rfl wr.heap.size (recCells rv) rfl rfl 49 _ (heap_new wr _) hi49 (by rw [recCells_size]; simp) hon ?_; rw [World.setRow_alloc_new])
        | fail)
      obtain ⟨L, hL⟩ : ∃ x, x = wr.heap.size := ⟨_, rfl⟩
      obtain ⟨w5, hw5⟩ : ∃ z, z = wr.alloc (.cells (recCells rv) 49) := ⟨_, rfl⟩
      have HR5 : Aside (RecIn w5 L rv) := by rw [hw5, hL]; exact RecIn.box _ _
      have hb5 : Below wr.heap.size wr w5 := by rw [hw5]; exact new_alloc _ _
      have HB5 : Aside (Below w.heap.size w w5) := st_new w _ _ HBR.out hb5
      have HMD5 := aside (HMD.out.new hb5)
      have HSS5 : Aside (∀ j, S j → j < w5.heap.size) := fun j hj => Nat.lt_of_lt_of_le (HSS.out j hj) hb5.size
      rw [← hw5, ← hL]
      clear hw5 hL hb5 hon HRG HMD HSS
      have HRO : Aside (RecOut S w5 rv d) := fun W hW => HRV.out.on ⟨hW.os.trans HB5.out.os, hW.tape.trans HB5.out.tape, hW.output.trans HB5.out.output, Nat.le_trans HB5.out.size hW.size, fun j hj => (hW.block j (Nat.lt_of_lt_of_le hj HB5.out.size) (fun h => by have := HSB.out j h; omega)).trans (HB5.out.block j hj)⟩
      go_wp2_with (first
        | (refine wpList_load_row rfl _ _ rfl L rfl _ (recCells rv) (0, 0) _ HR5.out Tryz.underlying49 rfl hi49 ?_)
        | fail)
      refine (mtake_any opf HMD5.out HSS5.out (by omega) rv d HRO.out (HOK.out d HMEM.out) (HREV.out w5 S k p _ rv d HB5.out HPK.out HMEM.out)).mono ?_
      rintro e w6 ⟨rfl, S', hmd6, hk6, hs6, hz6⟩
      have HB6 : Aside (Below w.heap.size w w6) := ⟨hk6.os.trans HB5.out.os, hk6.tape.trans HB5.out.tape, hk6.output.trans HB5.out.output, Nat.le_trans HB5.out.size hk6.size, fun j hj => (hk6.block j (Nat.lt_of_lt_of_le hj HB5.out.size) (fun h => by have := HSB.out j h; omega)).trans (HB5.out.block j hj)⟩
      have HMD6 := aside hmd6
      have HZ6 := aside hz6
      have HS6 : Aside (∀ j, S' j → w.heap.size ≤ j) := fun j hj => (hs6 j hj).elim (HSB.out j) (fun h => Nat.le_trans HB5.out.size h)
      obtain ⟨c, hc⟩ : ∃ c, c = (takeM opf (playM opf {} (ds.take k)) d).1 := ⟨_, rfl⟩
      rw [← hc]
      have HC := aside hc
      have HNX : Aside (playM opf {} (ds.take (k + 1)) = (takeM opf (playM opf {} (ds.take k)) d).2) := by rw [Aside, playM_take1 _ _ _ _ HKD.out, ← HDD.out]
      have HFA : Aside (failM opf {} ds 0 = if c = 0 then failM opf (playM opf {} (ds.take (k + 1))) (ds.drop (k + 1)) (k + 1) else some (c, k)) := by rw [Aside, HFL.out, failM_at _ _ _ _ HKD.out, ← HDD.out, ← HC.out, HNX.out]
      clear hmd6 hk6 hs6 hz6 hc hi0 hi49 HR5 HB5 HMD5 HSS5 HRO
      by_cases h0 : c = 0
      · subst h0
        have HFB : Aside (failM opf {} ds 0 = failM opf (playM opf {} (ds.take (k + 1))) (ds.drop (k + 1)) (k + 1)) := by rw [Aside, HFA.out, if_pos rfl]
        have HPA : Aside (PlayAt opf ds P w p (k + 1) w6) := ⟨HB6.out, HFB.out, by rw [HNX.out]; exact HPS.out _ _ HPK.out HMEM.out, S', by rw [HNX.out]; exact HMD6.out, HZ6.out, HS6.out⟩
        go_wp2_with fail
        go_roundg (n - (k + 1))
        case measure => exact HM.out.1
        case rel => exact ⟨k + 1, HM.out.2, by go_num, Nat.le_refl _, HPA.out⟩
      · have hcb : (c != 0) = true := by simpa using h0
        have HFB : Aside (failM opf {} ds 0 = some (c, k)) := by rw [Aside, HFA.out, if_neg h0]
        clear h0
        go_wp2_with fail
        go_ret3
        refine ⟨st_new w _ _ HB6.out (new_alloc _ _), .inr ⟨c, k, w6.heap.size, HFB.out, rfl, HB6.out.size, heap_new _ _⟩⟩
    · have hki : ¬ (k : Int) < n := by omega
      obtain rfl : k = n := by omega
      obtain ⟨hbr, hfl, hpk, S, hmd, hSs, hSb⟩ := HA.out
      have hnt : ds.take k = ds := by rw [HNN.out]; exact List.take_length
      have hnd : ds.drop k = [] := by rw [HNN.out]; exact List.drop_length
      rw [hnt, hnd] at hfl
      rw [hnt] at hmd
      have HBR := aside hbr
      have HFL : Aside (failM opf {} ds 0 = none) := hfl
      have HMD := aside hmd
      clear hnt hnd hbr hfl hpk hmd hSs hSb
      go_wp2_with fail
      refine (owners_any HMD.out).mono ?_
      rintro e w2 ⟨u, rfl, hu, hb2⟩
      have HU := aside hu
      have HB2 := aside hb2
      have HMD2 := aside (HMD.out.new hb2)
      clear hu hb2
      go_wp2_with fail
      refine (outcomes_any HMD2.out (by omega)).mono ?_
      rintro e w3 ⟨x, rfl, hx, hb3⟩
      have HX := aside hx
      have HU3 := aside (ownsRow_new HU.out hb3)
      have HB3 : Aside (Below w.heap.size w w3) := st_new w _ _ (st_new w _ _ HBR.out HB2.out) hb3
      have HW2 : Aside (w.heap.size ≤ w2.heap.size) := Nat.le_trans HBR.out.size HB2.out.size
      clear hx hb3
      go_wp2_with fail
      go_ret3
      exact ⟨HB3.out, .inl ⟨HFL.out, u, x, rfl, ownsRow_mono HU3.out HBR.out.size, ownsRow_mono HX.out HW2.out⟩⟩
end Go.Proofs.YtfnekbfcndkjeaaGreatDoor
namespace Go.Proofs.YtfnekbfcndkjeaaGreatDoor
open Go.RowKit Go.Maps
def scnC : RecD := { kind := 1, carriers := 3, commit := 2, reveal := 1, scheme := 1, lots := [(1, 50)], owners := [0, 2] }
def opnC : RecD := { kind := 2, tick := 4 }
def comC : RecD := { kind := 3, tick := 4 }
def comC1 : RecD := { kind := 3, carrier := 1, tick := 5 }
def revC : RecD := { kind := 4, carrier := 1, bid := 9, tick := 6 }
def clsC (o : OutT) : RecD := { kind := 5, tick := 7, state := o.1, winner := o.2.1, price := o.2.2 }
def chapD (o : OutT) : List RecD := [scnC, opnC, comC, comC1, revC, clsC o]
def scnV (A B : Nat) : RecV := scnC.toV (.slice none 0 0) (.slice (some ⟨A, 0, none⟩) 1 1) (.slice (some ⟨B, 0, none⟩) 2 2)
def plainV (d : RecD) : RecV := d.toV (.slice none 0 0) (.slice none 0 0) (.slice none 0 0)
def chapV (A B : Nat) (o : OutT) : List RecV := [scnV A B, plainV opnC, plainV comC, plainV comC1, plainV revC, plainV (clsC o)]
theorem buildC_scn (w : World) (A B : Nat) : (Instr.build 49 #[(0, .int .i64 1), (10, .int .i64 3), (11, .int .i64 2), (12, .int .i64 1), (13, .int .i64 1), (14, .slice (some ⟨A, 0, none⟩) 1 1), (15, .slice (some ⟨B, 0, none⟩) 2 2)]).run Tryz.prog w = .ok (.agg (recCells (scnV A B))) w := by kernel_rfl
theorem buildC_opn (w : World) : (Instr.build 49 #[(0, .int .i64 2), (4, .int .i64 4)]).run Tryz.prog w = .ok (.agg (recCells (plainV opnC))) w := by kernel_rfl
theorem buildC_com (w : World) : (Instr.build 49 #[(0, .int .i64 3), (4, .int .i64 4)]).run Tryz.prog w = .ok (.agg (recCells (plainV comC))) w := by kernel_rfl
theorem buildC_com1 (w : World) : (Instr.build 49 #[(0, .int .i64 3), (3, .int .i64 1), (4, .int .i64 5)]).run Tryz.prog w = .ok (.agg (recCells (plainV comC1))) w := by kernel_rfl
theorem buildC_rev (w : World) : (Instr.build 49 #[(0, .int .i64 4), (3, .int .i64 1), (7, .int .u64 9), (4, .int .i64 6)]).run Tryz.prog w = .ok (.agg (recCells (plainV revC))) w := by kernel_rfl
theorem buildC_cls (w : World) (a b c : Int) : (Instr.build 49 #[(0, .int .i64 5), (9, .agg #[.int .i64 a, .int .i64 b, .int .u64 c]), (4, .int .i64 7)]).run Tryz.prog w = .ok (.agg (recCells (plainV (clsC (a, b, c))))) w := by kernel_rfl
theorem recs_slice6 (r0 r1 r2 r3 r4 r5 : RecV) (w : World) : (Instr.buildSlice 29 6 #[(0, .agg (recCells r0)), (1, .agg (recCells r1)), (2, .agg (recCells r2)), (3, .agg (recCells r3)), (4, .agg (recCells r4)), (5, .agg (recCells r5))]).run Tryz.prog w = .ok (.slice (some ⟨w.heap.size, 0, none⟩) 6 6) (w.alloc (.cells ([r0, r1, r2, r3, r4, r5].flatMap fun r => (recCells r).toList).toArray 49)) := by
  have hf := fill_recs [r0, r1, r2, r3, r4, r5] [] ((Array.range (6 * 49)).map ((recCells {})[· % (recCells {}).size]!)).toList 0 rfl (zeros_len _ _)
  rw [List.nil_append, List.nil_append, Array.toArray_toList] at hf
  exact slice_of 6 (by decide) (by decide) [(0, .agg (recCells r0)), (1, .agg (recCells r1)), (2, .agg (recCells r2)), (3, .agg (recCells r3)), (4, .agg (recCells r4)), (5, .agg (recCells r5))] _ hf w
structure ChapAt (B0 : Nat) (w : World) (g A B : Nat) (o : OutT) : Prop where
  row : w.heap[g]? = some (.cells ((chapV A B o).flatMap fun r => (recCells r).toList).toArray 49 (0, 0))
  lots : w.heap[A]? = some (.cells #[.int .i64 1, .int .i64 50] 63 (0, 0))
  owners : w.heap[B]? = some (.cells #[.int .i64 0, .int .i64 2] 3 (0, 0))
  g0 : B0 ≤ g
  A0 : B0 ≤ A
  B0' : B0 ≤ B
theorem ChapAt.new {B0 : Nat} {w w' : World} {g A B : Nat} {o : OutT} (h : ChapAt B0 w g A B o) (hb : Below w.heap.size w w') : ChapAt B0 w' g A B o :=
  ⟨whole_new h.row hb, whole_new h.lots hb, whole_new h.owners hb, h.g0, h.A0, h.B0'⟩
theorem ChapAt.recV {B0 : Nat} {w : World} {g A B : Nat} {o : OutT} (h : ChapAt B0 w g A B o) : RecAt w (scnV A B) scnC := by
  refine ⟨_, _, _, rfl, RowI.nil _, ⟨_, 1, rfl, Nat.le_refl _, fun _ => ⟨A, 0, rfl, whole_lt h.lots, fun j hj => ?_⟩⟩, ⟨_, 2, rfl, Nat.le_refl _, fun _ => ⟨B, 0, rfl, whole_lt h.owners, fun j hj => ?_⟩⟩⟩
  · obtain rfl : j = 0 := by have : j < 1 := hj; omega
    exact ⟨cell_whole h.lots 0, cell_whole h.lots 1⟩
  · rw [Nat.zero_add, cell_whole h.owners]
    match j, hj with
    | 0, _ | 1, _ => rfl
    | _ + 2, h => exact absurd h (by simp [scnC])
theorem plain_at (w : World) {d : RecD} (h1 : d.barred = []) (h2 : d.lots = []) (h3 : d.owners = []) : RecAt w (plainV d) d :=
  ⟨_, _, _, rfl, by rw [h1]; exact RowI.nil _, by rw [h2]; exact RowL.nil _, by rw [h3]; exact RowI.nil _⟩
theorem recs_whole {w : World} {g : Nat} {rvs : List RecV} {ds : List RecD} (hl : rvs.length = ds.length) (hg : w.heap[g]? = some (.cells (rvs.flatMap fun r => (recCells r).toList).toArray 49 (0, 0))) (hat : ∀ j, j < ds.length → RecAt w (rvs.getD j {}) (ds.getD j {})) :
    RecsAt w (.slice (some ⟨g, 0, none⟩) ds.length ds.length) ds := by
  refine ⟨_, ds.length, fun j => rvs.getD j {}, rfl, Nat.le_refl _, fun _ => ⟨g, 0, rfl, whole_lt hg, fun j hj i v hv => ?_⟩, hat⟩
  have hi : i < 49 := by
    have := (List.getElem?_eq_some_iff.1 hv).1
    rw [Array.length_toList, recCells_size] at this
    exact this
  have := flat49 rvs j i hi
  rw [if_pos (by omega), hv] at this
  rw [Nat.zero_add, cell_whole hg]
  simpa using this
theorem ChapAt.recs {B0 : Nat} {w : World} {g A B : Nat} {o : OutT} (h : ChapAt B0 w g A B o) : RecsAt w (.slice (some ⟨g, 0, none⟩) 6 6) (chapD o) :=
  recs_whole (rvs := chapV A B o) (ds := chapD o) rfl h.row fun j hj => by
    match j, hj with
    | 0, _ => exact h.recV
    | 1, _ | 2, _ | 3, _ | 4, _ | 5, _ => exact plain_at w rfl rfl rfl
    | _ + 6, h => exact absurd h (by simp [chapD])
set_option maxHeartbeats 2000000 in
set_option maxRecDepth 100000 in
theorem chapter_any (a b c : Int) (w : World) : Calls Tryz.prog 27 #[.agg #[.int .i64 a, .int .i64 b, .int .u64 c]] w fun e w' => ∃ g A B, e = .returned (.slice (some ⟨g, 0, none⟩) 6 6) ∧ Below w.heap.size w w' ∧ ChapAt w.heap.size w' g A B (a, b, c) := by
  go_enter Tryz.func27, Tryz.ntmps27
  go_upto_region 1 with fail
  obtain ⟨w0, hw0⟩ : ∃ z, z = w.alloc (.cells #[.int .i64 a, .int .i64 b, .int .u64 c] 46) := ⟨_, rfl⟩
  have HX : Aside (w0.heap[w.heap.size]? = some (.cells #[.int .i64 a, .int .i64 b, .int .u64 c] 46 (0, 0))) := by rw [hw0]; exact heap_new _ _
  have HN0 : Aside (Below w.heap.size w w0) := by rw [hw0]; exact new_alloc _ _
  obtain ⟨X, hX⟩ : ∃ x, x = w.heap.size := ⟨_, rfl⟩
  rw [← hX] at HX
  rw [← hw0, ← hX]
  have HXW := aside hX
  clear hw0 hX
  have c0 : w0.cell? ⟨X, 0, none⟩ = some (.int .i64 a) := cell_whole HX.out 0
  have c1 : w0.cell? ⟨X, 1, none⟩ = some (.int .i64 b) := cell_whole HX.out 1
  have c2 : w0.cell? ⟨X, 2, none⟩ = some (.int .u64 c) := cell_whole HX.out 2
  have b0 := fun W => buildC_scn W w0.heap.size (w0.heap.size + 1)
  have b1 := buildC_opn
  have b2 := buildC_com
  have b3 := buildC_com1
  have b4 := buildC_rev
  have b5 := fun W => buildC_cls W a b c
  have hs := recs_slice6 (scnV w0.heap.size (w0.heap.size + 1)) (plainV opnC) (plainV comC) (plainV comC1) (plainV revC) (plainV (clsC (a, b, c)))
  obtain ⟨C, hC⟩ : ∃ C, C = ([scnV w0.heap.size (w0.heap.size + 1), plainV opnC, plainV comC, plainV comC1, plainV revC, plainV (clsC (a, b, c))].flatMap fun r => (recCells r).toList).toArray := ⟨_, rfl⟩
  rw [← hC] at hs
  generalize recCells (scnV w0.heap.size (w0.heap.size + 1)) = R0 at b0 hs
  generalize recCells (plainV opnC) = R1 at b1 hs
  generalize recCells (plainV comC) = R2 at b2 hs
  generalize recCells (plainV comC1) = R3 at b3 hs
  generalize recCells (plainV revC) = R4 at b4 hs
  generalize recCells (plainV (clsC (a, b, c))) = R5 at b5 hs
  have HC := aside hC
  have B0 := aside b0
  have B1 := aside b1
  have B2 := aside b2
  have B3 := aside b3
  have B4 := aside b4
  have B5 := aside b5
  have HS := aside hs
  clear b0 b1 b2 b3 b4 b5 hs hC
  go_wp2_with (first
    | (refine wpList_build_by rfl 49 _ rfl [(0, .int .i64 1), (10, .int .i64 3), (11, .int .i64 2), (12, .int .i64 1), (13, .int .i64 1), (14, .slice (some ⟨w0.heap.size, 0, none⟩) 1 1), (15, .slice (some ⟨w0.heap.size + 1, 0, none⟩) 2 2)] rfl _ (B0.out _) ?_; try simp only [Act.put, ps])
    | (refine wpList_build_by rfl 49 _ rfl [(0, .int .i64 2), (4, .int .i64 4)] rfl _ (B1.out _) ?_; try simp only [Act.put, ps])
    | (refine wpList_build_by rfl 49 _ rfl [(0, .int .i64 3), (4, .int .i64 4)] rfl _ (B2.out _) ?_; try simp only [Act.put, ps])
    | (refine wpList_build_by rfl 49 _ rfl [(0, .int .i64 3), (3, .int .i64 1), (4, .int .i64 5)] rfl _ (B3.out _) ?_; try simp only [Act.put, ps])
    | (refine wpList_build_by rfl 49 _ rfl [(0, .int .i64 4), (3, .int .i64 1), (7, .int .u64 9), (4, .int .i64 6)] rfl _ (B4.out _) ?_; try simp only [Act.put, ps])
    | (refine wpList_build_by rfl 49 _ rfl [(0, .int .i64 5), (9, .agg #[.int .i64 a, .int .i64 b, .int .u64 c]), (4, .int .i64 7)] rfl _ (B5.out _) ?_; try simp only [Act.put, ps])
    | (refine wpList_load_row rfl _ _ rfl X rfl _ #[.int .i64 a, .int .i64 b, .int .u64 c] (0, 0) _ (whole_new (whole_new HX.out (new_alloc _ _)) (new_alloc _ _)) Tryz.underlying46 rfl (by kernel_rfl) ?_; try simp only [Act.put, ps])
    | (refine wpList_slices_by rfl 29 6 _ rfl [(0, .agg R0), (1, .agg R1), (2, .agg R2), (3, .agg R3), (4, .agg R4), (5, .agg R5)] rfl _ (HS.out _) ?_)
    | fail)
  go_ret
  obtain ⟨wa, hwa⟩ : ∃ z, z = w0.alloc (.cells #[.int .i64 1, .int .i64 50] 63) := ⟨_, rfl⟩
  obtain ⟨wb, hwb⟩ : ∃ z, z = wa.alloc (.cells #[.int .i64 0, .int .i64 2] 3) := ⟨_, rfl⟩
  have sa : wa.heap.size = w0.heap.size + 1 := by rw [hwa]; simp
  have ba : Below w0.heap.size w0 wa := by rw [hwa]; exact new_alloc _ _
  have bb : Below wa.heap.size wa wb := by rw [hwb]; exact new_alloc _ _
  have hA : wb.heap[w0.heap.size]? = some (.cells #[.int .i64 1, .int .i64 50] 63 (0, 0)) := whole_new (by rw [hwa]; exact heap_new _ _) bb
  have hB : wb.heap[w0.heap.size + 1]? = some (.cells #[.int .i64 0, .int .i64 2] 3 (0, 0)) := by rw [← sa, hwb]; exact heap_new _ _
  have h0 := HN0.out.size
  rw [← hwa, ← hwb]
  have bn := new_alloc wb (.cells C 49)
  have hCC : C = ((chapV w0.heap.size (w0.heap.size + 1) (a, b, c)).flatMap fun r => (recCells r).toList).toArray := HC.out
  have sb : wb.heap.size = w0.heap.size + 1 + 1 := by rw [hwb]; simp [sa]
  have hrow := heap_new wb (.cells C 49)
  rw [sb, hCC] at hrow
  rw [← hCC] at hrow
  refine ⟨w0.heap.size + 1 + 1, w0.heap.size, w0.heap.size + 1, rfl, st_new w _ _ (st_new w _ _ (st_new w _ _ HN0.out ba) bb) bn, ⟨hCC ▸ hrow, whole_new hA bn, whole_new hB bn, ?_, ?_, ?_⟩⟩
  · omega
  · omega
  · omega
structure PlayIn (P : MSt → Prop) (opf : List Int → RecD → Bool) (w : World) (v : Value) (ds : List RecD) : Prop where
  init : P {}
  small : ds.length < 1000000000
  at_ : RecsAt w v ds
  ok : ∀ d ∈ ds, d.ok
  step : ∀ st d, P st → d ∈ ds → P (takeM opf st d).2
  rev : ∀ W S n p st rv d, Below w.heap.size w W → P st → d ∈ ds → RevOk opf S n W p st rv d
theorem PlayIn.handle {opf : List Int → RecD → Bool} {w : World} {v : Value} {ds : List RecD} (hs : ds.length < 1000000000) (h : RecsAt w v ds) (hok : ∀ d ∈ ds, d.ok) (hk : ∀ d ∈ ds, d.kind = 1 → d.scheme ≠ 0) : PlayIn HandleM opf w v ds :=
  ⟨.inl rfl, hs, h, hok, fun st d hst hd => handle_take hst (hk d hd), fun W S n p st rv d hb hst hd => revOk_handle opf hst⟩
set_option maxHeartbeats 2000000 in
set_option maxRecDepth 100000 in
theorem mwrong_any {P : MSt → Prop} (opf : List Int → RecD → Bool) (w : World) (v : Value) (ds : List RecD) (h : PlayIn P opf w v ds) (ht : ErrTab w) (c : Int) (i : Nat) (hf : failM opf {} ds 0 = some (c, i)) :
    Calls Tryz.prog 38 #[v, .int .i64 c, .int .i64 i] w fun e w' => e = .returned (.bool true) ∧ Below w.heap.size w w' := by
  have HT := aside ht
  have HF := aside hf
  have heq := fun W => eqFault c 0 i c 0 i W
  have hbb : (c == c && ((0 : Int) == 0 && (i : Int) == i)) = true := by simp
  simp only [hbb] at heq
  have HPL := aside (play_any opf P h.init w v ds h.small h.at_ h.ok h.step h.rev)
  clear ht hf h hbb
  go_enter Tryz.func38, Tryz.ntmps38
  go_wp2_with fail
  refine HPL.out.mono ?_
  rintro e w1 ⟨hb, hr⟩
  rw [HF.out] at hr
  rcases hr with ⟨h0, _⟩ | ⟨c', i', f, h0, rfl, hf, hc⟩
  · cases h0
  injection h0 with h0
  injection h0 with h1 h2
  subst h1
  subst h2
  have HB := aside hb
  have HC := aside hc
  clear hb hc hf
  go_wp2_with fail
  refine (told_fault f c 0 i w1 (HT.out.on HB.out) (cell_whole HC.out 0) (cell_whole HC.out 1) (cell_whole HC.out 2)).mono ?_
  rintro e w2 ⟨rfl, hb2⟩
  have HB2 := aside (HB.out.trans (hb2.mono HB.out.size))
  clear hb2
  go_wp2_with fail
  go_ret
  exact ⟨rfl, HB2.out⟩
end Go.Proofs.YtfnekbfcndkjeaaGreatDoor
namespace Go.Proofs.YtfnekbfcndkjeaaGreatDoor
open Go.RowKit Go.Maps
def opf0 : List Int → RecD → Bool := fun _ _ => false
def lateD : List RecD := [scnC, opnC, { comC with tick := 5 }, { comC with carrier := 1 }]
def endC : RecD := { kind := 6 }
theorem fail_sold : failM opf0 {} (chapD (2, 1, 50)) 0 = none := by kernel_rfl
theorem owners_sold : (playM opf0 {} (chapD (2, 1, 50))).owners = [0, 1] := by kernel_rfl
theorem outs_sold : (playM opf0 {} (chapD (2, 1, 50))).outs = [(2, 1, 50)] := by kernel_rfl
theorem fail_late : failM opf0 {} lateD 0 = some (22, 3) := by kernel_rfl
theorem fail_nine : failM opf0 {} (chapD (2, 1, 9)) 0 = some (22, 5) := by kernel_rfl
theorem fail_end : failM opf0 {} [endC] 0 = some (22, 0) := by kernel_rfl
theorem late_rows (A B : Nat) : ([scnV A B, plainV opnC, plainV { comC with tick := 5 }, plainV { comC with carrier := 1 }].flatMap fun r => (recCells r).toList) = (([scnV A B, plainV opnC, plainV comC, plainV comC].flatMap fun r => (recCells r).toList).set 102 (.int .i64 5)).set 150 (.int .i64 1) := by kernel_rfl
theorem eqOutM (a b c x y z : Int) (w : World) : (binOp .eql 46 (.agg #[.int .i64 a, .int .i64 b, .int .u64 c]) (.agg #[.int .i64 x, .int .i64 y, .int .u64 z])).run Tryz.prog w = .ok (.bool (a == x && (b == y && c == z))) w := by
  have u3 := Tryz.underlying3
  have a3 := Tryz.isAgg3
  have z3 := Tryz.sizeOf3
  have u40 := Tryz.underlying44
  have a40 := Tryz.isAgg44
  have z40 := Tryz.sizeOf44
  rw [run_eql_struct, show (10000 : Nat) = 9999 + 1 from rfl, run_equalIn_agg w 9999 46 _ _ (by kernel_rfl) (by kernel_rfl)]
  simp only [Program.fieldsOf, Tryz.underlying46]
  go_simp
  by_cases h1 : a = x <;> by_cases h2 : b = y <;> by_cases h3 : c = z <;> simp [h1, h2, h3]
end Go.Proofs.YtfnekbfcndkjeaaGreatDoor
namespace Go.Proofs.YtfnekbfcndkjeaaGreatDoor
open Go.RowKit Go.Maps
theorem step_append_m {ops : Array Oper} {o : Oper} {a : Act} {K : Act → World → Prop} {Q : Exit → Act → World → Prop} {E' : Prop} {w : World} (hgd : o.guard = none) (s x : Operand) (t : TypeId)
    (ho : o.op = .call { callee := .builtin .append, args := #[s, x], argTypes := #[t, t] }) (e : TypeId) (z : Value) (size bytes : Nat) (ht : Tryz.prog.underlying t = some (.slice e)) (hE : (Tryz.prog.info? e).map (fun i => (i.zero, i.size, i.bytes)) = some (some z, size, bytes)) (hzs : z.cells.size = size) (hsz : 0 < size)
    (base : Nat) (v : Value) (n : Nat) (xs : List Value) (hs : a.eval s = v) (hown : w.ownsRow base e size v n xs) (g lo m c : Nat) (y : List Value) (hx : a.eval x = .slice (some ⟨g, lo, none⟩) m c) (hy1 : y.length = m * size) (hy : ∀ j u, y[j]? = some u → w.cell? ⟨g, lo + j, none⟩ = some u) (hone : ∀ u ∈ y, u.oneCell' = true)
    (hlen : n + m ≤ maxLen) (hby : (n + m) * bytes ≤ 140737488355328) (hbase : base ≤ w.heap.size)
    (h : ∀ v' w', w'.ownsRow base e size v' (n + m) (xs ++ y) → w.grownBy w' v.ownBlock → (v'.ownBlock = v.ownBlock ∨ v'.ownBlock = some w.heap.size) → K (a.put o.dst v') w') :
    if Region.wanted o (yielded ops a.tmps) = true then Oper.wp Tryz.prog o a w K Q else E' := by
  have hw : Region.wanted o (yielded ops a.tmps) = true := by simp [Region.wanted, hgd]
  rw [if_pos hw]
  obtain ⟨i, hi, hz, h1, h2⟩ := info_parts hE
  obtain ⟨v', w', hr, r1, r2, _, r4⟩ := run_append_own_at (P := Tryz.prog) w base t o.type e i z size bytes ht hi hz h1 h2 hzs hsz v n xs hown ⟨g, lo, none⟩ m c y hy1 (fun j u hu => by
    rw [show (⟨g, lo, none⟩ : Addr).add j = ⟨g, lo + j, none⟩ by simp only [Addr.add]; split <;> simp_all]
    exact hy j u hu) hone hlen hby hbase
  unfold Oper.wp execOp
  simp only [ho, resolve, invoke, builtin, Sem.run_bind, Sem.run_pure, Result.andThen_ok, List.map_toArray, List.map_cons, List.map_nil, hs, hx, hr]
  exact h v' w' r1 r2 r4
theorem recs_slice0 (w : World) : (Instr.buildSlice 29 0 #[]).run Tryz.prog w = .ok (.slice (some ⟨w.heap.size, 0, none⟩) 0 0) (w.alloc (.cells #[] 49)) := by kernel_rfl
theorem recs_slice2 (r0 r1 : RecV) (w : World) : (Instr.buildSlice 29 2 #[(0, .agg (recCells r0)), (1, .agg (recCells r1))]).run Tryz.prog w = .ok (.slice (some ⟨w.heap.size, 0, none⟩) 2 2) (w.alloc (.cells ([r0, r1].flatMap fun r => (recCells r).toList).toArray 49)) := by
  have hf := fill_recs [r0, r1] [] ((Array.range (2 * 49)).map ((recCells {})[· % (recCells {}).size]!)).toList 0 rfl (zeros_len _ _)
  rw [List.nil_append, List.nil_append, Array.toArray_toList] at hf
  exact slice_of 2 (by decide) (by decide) [(0, .agg (recCells r0)), (1, .agg (recCells r1))] _ hf w
theorem recs_slice1 (r0 : RecV) (w : World) : (Instr.buildSlice 29 1 #[(0, .agg (recCells r0))]).run Tryz.prog w = .ok (.slice (some ⟨w.heap.size, 0, none⟩) 1 1) (w.alloc (.cells ([r0].flatMap fun r => (recCells r).toList).toArray 49)) := by
  have hf := fill_recs [r0] [] ((Array.range (1 * 49)).map ((recCells {})[· % (recCells {}).size]!)).toList 0 rfl (zeros_len _ _)
  rw [List.nil_append, List.nil_append, Array.toArray_toList] at hf
  exact slice_of 1 (by decide) (by decide) [(0, .agg (recCells r0))] _ hf w
theorem step_slices_by {P : Program} {ops : Array Oper} {o : Oper} {a : Act} {K : Act → World → Prop} {Q : Exit → Act → World → Prop} {E' : Prop} {w w1 : World} (hgd : Region.wanted o (yielded ops a.tmps) = true) (t : TypeId) (n : Nat) (l : List (Nat × Operand)) (ho : o.op = .buildSlice t n l.toArray)
    (ql : List (Nat × Value)) (hq : (l.map fun x => (x.1, a.eval x.2)) = ql) (v : Value) (hr : (Instr.buildSlice t n ql.toArray).run P w = .ok v w1) (h : K (a.put o.dst v) w1) :
    if Region.wanted o (yielded ops a.tmps) = true then Oper.wp P o a w K Q else E' := by
  rw [if_pos hgd]
  subst hq
  unfold Oper.wp execOp
  simp only [ho]
  simp [hr]
  exact h
def lateR (A B : Nat) : List Value := [scnV A B, plainV opnC, plainV comC, plainV comC].flatMap fun r => (recCells r).toList
structure LateAt (w0 : World) (W : World) (g A B : Nat) (v : Value) : Prop where
  chap : ChapAt w0.heap.size W g A B (2, 1, 50)
  row : W.ownsRow w0.heap.size 49 49 v 4 (lateR A B)
  bel : Below w0.heap.size w0 W
  ne : ∀ k, v.ownBlock = some k → k ≠ g
def twoR (A B : Nat) : List Value := [scnV A B, plainV opnC].flatMap fun r => (recCells r).toList
def comR : List Value := [plainV comC, plainV comC].flatMap fun r => (recCells r).toList
theorem twoR_len (A B : Nat) : (twoR A B).length = 2 * 49 := by kernel_rfl
theorem twoR_one (A B : Nat) : ∀ u ∈ twoR A B, u.oneCell' = true := by
  have : (twoR A B).all (·.oneCell') = true := by kernel_rfl
  exact List.all_eq_true.1 this
theorem comR_one : ∀ u ∈ comR, u.oneCell' = true := by
  have : comR.all (·.oneCell') = true := by kernel_rfl
  exact List.all_eq_true.1 this
theorem two_cell (A B : Nat) {j : Nat} {u : Value} (hu : (twoR A B)[j]? = some u) : (((chapV A B (2, 1, 50)).flatMap fun r => (recCells r).toList).toArray)[j]? = some u := by
  have e : ((chapV A B (2, 1, 50)).flatMap fun r => (recCells r).toList) = twoR A B ++ ([plainV comC, plainV comC1, plainV revC, plainV (clsC (2, 1, 50))].flatMap fun r => (recCells r).toList) := by
    rw [twoR, ← List.flatMap_append]; rfl
  rw [e, List.getElem?_toArray, List.getElem?_append_left (List.getElem?_eq_some_iff.1 hu).1]
  exact hu
theorem ChapAt.keeps {K : Nat → Prop} {B0 : Nat} {w w' : World} {g A B : Nat} {o : OutT} (h : ChapAt B0 w g A B o) (hk : Keeps K w w') (h1 : K g) (h2 : K A) (h3 : K B) : ChapAt B0 w' g A B o :=
  ⟨whole_keeps h.row hk h1, whole_keeps h.lots hk h2, whole_keeps h.owners hk h3, h.g0, h.A0, h.B0'⟩
theorem late_fin {w w1 W : World} {g A B : Nat} {v4 : Value} (hb : Below w.heap.size w w1) (hc : ChapAt w.heap.size w1 g A B (2, 1, 50)) (hg : g < w1.heap.size ∧ A < w1.heap.size ∧ B < w1.heap.size) (hk : Keeps (· < w1.heap.size) w1 W)
    (hv : W.ownsRow w1.heap.size 49 49 v4 (0 + 2 + 2) ([] ++ twoR A B ++ comR)) : LateAt w W g A B v4 := by
  refine ⟨hc.keeps hk hg.1 hg.2.1 hg.2.2, ?_, ?_, fun k hk2 e => ?_⟩
  · have e : lateR A B = [] ++ twoR A B ++ comR := by rw [List.nil_append, lateR, twoR, comR, ← List.flatMap_append]; rfl
    rw [e]; exact ownsRow_mono hv hb.size
  · exact ⟨hk.os.trans hb.os, hk.tape.trans hb.tape, hk.output.trans hb.output, Nat.le_trans hb.size hk.size, fun j hj => (hk.block j (Nat.lt_of_lt_of_le hj hb.size) (Nat.lt_of_lt_of_le hj hb.size)).trans (hb.block j hj)⟩
  · have := (World.ownsRow.lt hv k hk2).1; omega
theorem row_cur {base : Nat} {E : TypeId} {size n : Nat} {w : World} {v : Value} {xs : List Value} (hn : 0 < n) (h : w.ownsRow base E size v n xs) : ∃ g cap cur, v = .slice (some ⟨g, 0, none⟩) n cap ∧ base ≤ g ∧ w.heap[g]? = some (.cells cur E (0, 0)) ∧ n ≤ cap ∧ cap ≤ maxLen ∧ cur.size = cap * size ∧ ∀ j u, xs[j]? = some u → w.cell? ⟨g, j, none⟩ = some u := by
  obtain ⟨a, c, e, _, hx⟩ := ownsRow_form h
  obtain ⟨g', ea, _, _, hj⟩ := hx hn
  rcases h.2 with ⟨_, h0⟩ | ⟨g, cap, cur, e2, hb, hg, h1, h2, h3, _⟩
  · omega
  · rw [e2] at e
    injection e with e3 e4 e5
    rw [ea] at e3
    obtain rfl : g = g' := by injection e3 with e3; injection e3
    exact ⟨g, cap, cur, e2, hb, hg, h1, h2, h3, hj⟩
theorem below_trans_keeps {K : Nat → Prop} {w w2 w3 : World} (h : Below w.heap.size w w2) (hk : Keeps K w2 w3) (hK : ∀ k, k < w.heap.size → K k) : Below w.heap.size w w3 :=
  ⟨hk.os.trans h.os, hk.tape.trans h.tape, hk.output.trans h.output, Nat.le_trans h.size hk.size, fun j hj => (hk.block j (Nat.lt_of_lt_of_le hj h.size) (hK j hj)).trans (h.block j hj)⟩
theorem recs_cur {w : World} {g cap : Nat} {cur : Array Value} {rvs : List RecV} {ds : List RecD} (hl : rvs.length = ds.length) (hg : w.heap[g]? = some (.cells cur 49 (0, 0))) (hc : ds.length ≤ cap)
    (hrow : ∀ (k : Nat) (u : Value), (rvs.flatMap fun r => (recCells r).toList)[k]? = some u → cur[k]? = some u) (hat : ∀ j, j < ds.length → RecAt w (rvs.getD j {}) (ds.getD j {})) : RecsAt w (.slice (some ⟨g, 0, none⟩) ds.length cap) ds := by
  refine ⟨_, cap, fun j => rvs.getD j {}, rfl, hc, fun _ => ⟨g, 0, rfl, whole_lt hg, fun j hj i v hv => ?_⟩, hat⟩
  have hi : i < 49 := by
    have := (List.getElem?_eq_some_iff.1 hv).1
    rw [Array.length_toList, recCells_size] at this
    exact this
  have := flat49 rvs j i hi
  rw [if_pos (by omega), hv] at this
  rw [Nat.zero_add, cell_whole hg]
  exact hrow _ _ this
theorem late_recs {B0 : Nat} {w : World} {g A B Lb cap : Nat} {cur : Array Value} {o : OutT} (hc : ChapAt B0 w g A B o) (hg : w.heap[Lb]? = some (.cells ((cur.setIfInBounds 102 (.int .i64 5)).setIfInBounds 150 (.int .i64 1)) 49 (0, 0))) (hcap : 4 ≤ cap)
    (hrow : ∀ (k : Nat) (u : Value), (lateR A B)[k]? = some u → cur[k]? = some u) : RecsAt w (.slice (some ⟨Lb, 0, none⟩) 4 cap) lateD :=
  recs_cur (rvs := [scnV A B, plainV opnC, plainV { comC with tick := 5 }, plainV { comC with carrier := 1 }]) (ds := lateD) rfl hg hcap (fun k u hu => by
    rw [late_rows A B] at hu
    have hs : ∀ k, k < 196 → k < cur.size := fun k hk => by
      have hl : (lateR A B).length = 196 := by kernel_rfl
      have := hrow k _ (List.getElem?_eq_getElem (by rw [hl]; exact hk))
      exact (Array.getElem?_eq_some_iff.1 this).1
    by_cases e1 : k = 150
    · subst e1
      have h1 : ((([scnV A B, plainV opnC, plainV comC, plainV comC].flatMap fun r => (recCells r).toList).set 102 (.int .i64 5)).set 150 (.int .i64 1))[150]? = some (.int .i64 1) := by kernel_rfl
      rw [Array.getElem?_setIfInBounds_self_of_lt (by rw [Array.size_setIfInBounds]; exact hs 150 (by decide))]
      exact h1.symm.trans hu
    · rw [Array.getElem?_setIfInBounds_ne (Ne.symm e1)]
      rw [List.getElem?_set_ne (Ne.symm e1)] at hu
      by_cases e2 : k = 102
      · subst e2
        have h1 : (([scnV A B, plainV opnC, plainV comC, plainV comC].flatMap fun r => (recCells r).toList).set 102 (.int .i64 5))[102]? = some (.int .i64 5) := by kernel_rfl
        rw [Array.getElem?_setIfInBounds_self_of_lt (hs 102 (by decide))]
        exact h1.symm.trans hu
      · rw [Array.getElem?_setIfInBounds_ne (Ne.symm e2)]
        rw [List.getElem?_set_ne (Ne.symm e2)] at hu
        exact hrow k u hu) fun j hj => by
    match j, hj with
    | 0, _ => exact hc.recV
    | 1, _ | 2, _ | 3, _ => exact plain_at w rfl rfl rfl
    | _ + 4, h => exact absurd h (by simp [lateD])
theorem scnC_ok : scnC.ok := ⟨List.length_replicate, rep_bs, by decide, by decide, by decide, by decide, by decide, by decide, by decide, by decide, by decide, by decide, by decide, by decide⟩
theorem opnC_ok : opnC.ok := ⟨List.length_replicate, rep_bs, by decide, by decide, by decide, by decide, by decide, by decide, by decide, by decide, by decide, by decide, by decide, by decide⟩
theorem comC_ok : comC.ok := ⟨List.length_replicate, rep_bs, by decide, by decide, by decide, by decide, by decide, by decide, by decide, by decide, by decide, by decide, by decide, by decide⟩
theorem comC1_ok : comC1.ok := ⟨List.length_replicate, rep_bs, by decide, by decide, by decide, by decide, by decide, by decide, by decide, by decide, by decide, by decide, by decide, by decide⟩
theorem revC_ok : revC.ok := ⟨List.length_replicate, rep_bs, by decide, by decide, by decide, by decide, by decide, by decide, by decide, by decide, by decide, by decide, by decide, by decide⟩
theorem endC_ok : endC.ok := ⟨List.length_replicate, rep_bs, by decide, by decide, by decide, by decide, by decide, by decide, by decide, by decide, by decide, by decide, by decide, by decide⟩
theorem clsC_ok (o : OutT) (h : 0 ≤ o.2.2 ∧ o.2.2 ≤ 18446744073709551615) : (clsC o).ok := ⟨List.length_replicate, rep_bs, by simp [clsC], by simp [clsC], by simp [clsC], h, by simp [clsC], by simp [clsC], by simp [clsC], by simp [clsC], by simp [clsC], by simp [clsC], by simp [clsC], by simp [clsC]⟩
theorem chap_ok (o : OutT) (h : 0 ≤ o.2.2 ∧ o.2.2 ≤ 18446744073709551615) : ∀ d ∈ chapD o, d.ok := by
  intro d hd
  simp only [chapD, List.mem_cons, List.mem_nil_iff, or_false] at hd
  rcases hd with rfl | rfl | rfl | rfl | rfl | rfl
  · exact scnC_ok
  · exact opnC_ok
  · exact comC_ok
  · exact comC1_ok
  · exact revC_ok
  · exact clsC_ok o h
theorem play_of (opf : List Int → RecD → Bool) {P : MSt → Prop} {w : World} {v : Value} {ds : List RecD} (h : PlayIn P opf w v ds) : Calls Tryz.prog 19 #[v] w (PlayPost opf ds w) := play_any opf P h.init w v ds h.small h.at_ h.ok h.step h.rev
theorem chap_in {B0 : Nat} {w : World} {g A B : Nat} {o : OutT} (h : ChapAt B0 w g A B o) (ho : 0 ≤ o.2.2 ∧ o.2.2 ≤ 18446744073709551615) : PlayIn HandleM opf0 w (.slice (some ⟨g, 0, none⟩) 6 6) (chapD o) :=
  .handle (by simp [chapD]) h.recs (chap_ok o ho) (fun d hd hk => by
    simp only [chapD, List.mem_cons, List.mem_nil_iff, or_false] at hd
    rcases hd with rfl | rfl | rfl | rfl | rfl | rfl
    · decide
    all_goals exact absurd hk (by simp [opnC, comC, comC1, revC, clsC]))
theorem late_in {w : World} {Lb cap : Nat} (h : RecsAt w (.slice (some ⟨Lb, 0, none⟩) 4 cap) lateD) : PlayIn HandleM opf0 w (.slice (some ⟨Lb, 0, none⟩) 4 cap) lateD :=
  .handle (by decide) h (fun d hd => by
    simp only [lateD, List.mem_cons, List.mem_nil_iff, or_false] at hd
    rcases hd with rfl | rfl | rfl | rfl
    · exact scnC_ok
    · exact opnC_ok
    · exact ⟨List.length_replicate, rep_bs, by decide, by decide, by decide, by decide, by decide, by decide, by decide, by decide, by decide, by decide, by decide, by decide⟩
    · exact ⟨List.length_replicate, rep_bs, by decide, by decide, by decide, by decide, by decide, by decide, by decide, by decide, by decide, by decide, by decide, by decide⟩) (fun d hd hk => by
    simp only [lateD, List.mem_cons, List.mem_nil_iff, or_false] at hd
    rcases hd with rfl | rfl | rfl | rfl
    · decide
    all_goals exact absurd hk (by decide))
theorem end_in {w : World} {g : Nat} (h : RecsAt w (.slice (some ⟨g, 0, none⟩) 1 1) [endC]) : PlayIn HandleM opf0 w (.slice (some ⟨g, 0, none⟩) 1 1) [endC] :=
  .handle (by decide) h (fun d hd => by
    obtain rfl := List.mem_singleton.1 hd
    exact endC_ok) (fun d hd hk => by
    obtain rfl := List.mem_singleton.1 hd
    exact absurd hk (by decide))
theorem buildC_end (w : World) : (Instr.build 49 #[(0, .int .i64 6)]).run Tryz.prog w = .ok (.agg (recCells (plainV endC))) w := by kernel_rfl
theorem nil_in (w : World) : PlayIn HandleM opf0 w (.slice none 0 0) [] :=
  .handle (by decide) ⟨none, 0, fun _ => {}, rfl, Nat.le_refl _, fun h => absurd h (by decide), fun j h => absurd h (by simp)⟩ (fun d hd => by cases hd) (fun d hd => by cases hd)
end Go.Proofs.YtfnekbfcndkjeaaGreatDoor
namespace Go.Proofs.YtfnekbfcndkjeaaGreatDoor
open Go.RowKit Go.Maps
set_option maxHeartbeats 4000000 in
set_option maxRecDepth 100000 in
theorem mworks_any (w : World) (ht : ErrTab w) : Calls Tryz.prog 13 #[] w fun e w' => e = .returned (.bool true) ∧ Below w.heap.size w w' := by
  have HT := aside ht
  clear ht
  go_enter Tryz.func13, Tryz.ntmps13
  go_wp2_with fail
  refine (chapter_any 2 1 50 w).mono ?_
  rintro e w1 ⟨g, A, B, rfl, hb1, hc1⟩
  have HB1 := aside hb1
  have HC1 := aside hc1
  clear hb1 hc1
  go_upto_region 2 with fail
  go_cut [2] (fun s2 wx => Aside (LateAt w wx g A B s2))
  case first =>
    obtain ⟨cp, hcp⟩ : ∃ c : List Value, c = (recCells (plainV comC)).toList := ⟨_, rfl⟩
    have hi3 : (Tryz.prog.info? 49).map (·.size) = some cp.length := by rw [hcp]; kernel_rfl
    have HCPR : Aside (∀ W, ChapAt w.heap.size W g A B (2, 1, 50) → W.rangeAt g (0 + 98) cp) := by
      rw [hcp]
      intro W hW j u hu
      have hj : j < 49 := by
        have := (List.getElem?_eq_some_iff.1 hu).1
        rw [Array.length_toList, recCells_size] at this
        exact this
      have := flat49 (chapV A B (2, 1, 50)) 2 j hj
      rw [if_pos (show 2 < (chapV A B (2, 1, 50)).length from by simp [chapV])] at this
      rw [cell_whole hW.row]
      simpa using this.trans hu
    obtain ⟨C2, hC2⟩ : ∃ C : Array Value, C = comR.toArray := ⟨_, rfl⟩
    have HC2 := aside hC2
    have HS2 : Aside (∀ W : World, (Instr.buildSlice 29 2 #[(0, .agg cp.toArray), (1, .agg cp.toArray)]).run Tryz.prog W = .ok (.slice (some ⟨W.heap.size, 0, none⟩) 2 2) (W.alloc (.cells C2 49))) := by
      rw [hC2, hcp, Array.toArray_toList]
      exact recs_slice2 _ _
    have HG : Aside (g < w1.heap.size ∧ A < w1.heap.size ∧ B < w1.heap.size) := ⟨whole_lt HC1.out.row, whole_lt HC1.out.lots, whole_lt HC1.out.owners⟩
    clear hcp hC2
    refine wp_region_held_drew (S := fun W => ChapAt w.heap.size W g A B (2, 1, 50)) (by kernel_rfl) (HC1.out.new (new_drew _)) (fun hHeld => ?_)
    refine wpAnyH_take (i := 1) (oi := _) (v := .slice (some ⟨g, 0, none⟩) 6 6) rfl (by kernel_rfl) (by kernel_rfl) (by kernel_rfl) (fun _ _ _ h => h) (Or.inl ⟨by rfl, ?_⟩) hHeld ?_
    · intro W hSw
      go_simp
    try simp only [Act.put, ps]
    refine wpAnyH_take (i := 2) (oi := _) (v := .slice (some ⟨g, 0, none⟩) 2 6) rfl (by kernel_rfl) (by kernel_rfl) (by kernel_rfl) (fun _ _ _ h => h) (Or.inl ⟨by rfl, ?_⟩) hHeld ?_
    · intro W hSw
      go_simp
    try simp only [Act.put, ps]
    refine wpAnyH_take (i := 4) (oi := _) (v := .slice (some ⟨g, 0, none⟩) 6 6) rfl (by kernel_rfl) (by kernel_rfl) (by kernel_rfl) (fun _ _ _ h => h) (Or.inl ⟨by rfl, ?_⟩) hHeld ?_
    · intro W hSw
      go_simp
    try simp only [Act.put, ps]
    refine wpAnyH_take (i := 5) (oi := _) (v := .pointer (some ⟨g, 0 + 98, none⟩)) rfl (by kernel_rfl) (by kernel_rfl) (by kernel_rfl) (fun _ _ _ h => h) (Or.inl ⟨by rfl, ?_⟩) hHeld ?_
    · intro W hSw
      go_simp
    try simp only [Act.put, ps]
    refine wpAnyH_take (i := 6) (oi := _) (v := .agg cp.toArray) rfl (by kernel_rfl) (by kernel_rfl) (by kernel_rfl) (fun _ _ _ h => h) (yieldsIf_load_mid (by rfl) 49 (.tmp 16) rfl g (0 + 98) rfl cp _ (fun W hW => HCPR.out W hW) Tryz.underlying49 rfl hi3) hHeld ?_
    try simp only [Act.put, ps]
    refine wpAnyH_take (i := 7) (oi := _) (v := .slice (some ⟨g, 0, none⟩) 6 6) rfl (by kernel_rfl) (by kernel_rfl) (by kernel_rfl) (fun _ _ _ h => h) (Or.inl ⟨by rfl, ?_⟩) hHeld ?_
    · intro W hSw
      go_simp
    try simp only [Act.put, ps]
    refine wpAnyH_take (i := 8) (oi := _) (v := .pointer (some ⟨g, 0 + 98, none⟩)) rfl (by kernel_rfl) (by kernel_rfl) (by kernel_rfl) (fun _ _ _ h => h) (Or.inl ⟨by rfl, ?_⟩) hHeld ?_
    · intro W hSw
      go_simp
    try simp only [Act.put, ps]
    refine wpAnyH_take (i := 9) (oi := _) (v := .agg cp.toArray) rfl (by kernel_rfl) (by kernel_rfl) (by kernel_rfl) (fun _ _ _ h => h) (yieldsIf_load_mid (by rfl) 49 (.tmp 19) rfl g (0 + 98) rfl cp _ (fun W hW => HCPR.out W hW) Tryz.underlying49 rfl hi3) hHeld ?_
    try simp only [Act.put, ps]
    obtain ⟨W0, hW0⟩ : ∃ z, z = w1.drew := ⟨_, rfl⟩
    have HK0 : Aside (Keeps (· < w1.heap.size) w1 W0) := by rw [hW0]; exact (Keeps.refl _ _).drew
    rw [← hW0] at hHeld ⊢
    clear hW0
    refine wpAnyH_ready (rs := [0, 10]) (by kernel_rfl) (by simp) ?_
    refine AllReadyH.cons (o := _) rfl (fun K hK => ?_) (AllReadyH.cons (o := _) rfl (fun K hK => ?_) AllReadyH.nil)
    · refine step_slices_by (by rfl) 29 0 [] rfl [] rfl _ (recs_slice0 _) ?_
      obtain ⟨h0, hh0⟩ : ∃ x, x = W0.heap.size := ⟨_, rfl⟩
      obtain ⟨Wa, hW⟩ : ∃ z, z = W0.alloc (.cells #[] 49) := ⟨_, rfl⟩
      have bj : Below W0.heap.size W0 Wa := by rw [hW]; exact new_alloc _ _
      have HKa := aside (HK0.out.new bj)
      have HEa : Aside (Wa.ownsRow w1.heap.size 49 49 (.slice (some ⟨h0, 0, none⟩) 0 0) 0 []) := ⟨rfl, .inr ⟨h0, 0, #[], rfl, by rw [hh0]; exact HK0.out.size, by rw [hW, hh0]; exact heap_new _ _, Nat.le_refl _, by decide, rfl, rfl⟩⟩
      rw [← hW, ← hh0]
      refine hK.out _ Wa (HC1.out.keeps HKa.out HG.out.1 HG.out.2.1 HG.out.2.2) (fun hHeld => ?_)
      clear hK K hW bj hh0
      try simp only [Act.put, ps]
      refine wpAnyH_ready (rs := [3, 10]) (by kernel_rfl) (by simp) ?_
      refine AllReadyH.cons (o := _) rfl (fun K hK => ?_) (AllReadyH.cons (o := _) rfl (fun K hK => ?_) AllReadyH.nil)
      · refine step_append_m rfl _ _ 29 rfl 49 (.agg (recCells {})) 49 216 Tryz.underlying29 Tryz.infoRec rfl (by decide) w1.heap.size (.slice (some ⟨h0, 0, none⟩) 0 0) 0 [] rfl HEa.out g 0 2 6 (twoR A B) rfl (twoR_len A B) ?_ (twoR_one A B) (by decide) (by decide) HKa.out.size ?_
        · intro j u hu; rw [Nat.zero_add, cell_whole (HC1.out.keeps HKa.out HG.out.1 HG.out.2.1 HG.out.2.2).row]; exact two_cell A B hu
        intro v2 Wb hown hgr hloc
        have HVb := aside hown
        have HKb : Aside (Keeps (· < w1.heap.size) w1 Wb) := HKa.out.trans (keeps_grown hgr (· < w1.heap.size) (fun k hk => Nat.not_lt.2 (World.ownsRow.lt HEa.out k hk).1))
        clear hown hgr hloc
        refine hK.out _ Wb (HC1.out.keeps HKb.out HG.out.1 HG.out.2.1 HG.out.2.2) (fun hHeld => ?_)
        clear hK K
        try simp only [Act.put, ps]
        refine wpAnyH_ready (rs := [10]) (by kernel_rfl) (by simp) ?_
        refine AllReadyH.cons (o := _) rfl (fun K hK => ?_) AllReadyH.nil
        refine step_slices_by (by rfl) 29 2 [(0, .tmp 17), (1, .tmp 20)] rfl [(0, .agg cp.toArray), (1, .agg cp.toArray)] rfl _ (HS2.out _) ?_
        obtain ⟨hd, hhd⟩ : ∃ x, x = Wb.heap.size := ⟨_, rfl⟩
        obtain ⟨Wc, hW⟩ : ∃ z, z = Wb.alloc (.cells C2 49) := ⟨_, rfl⟩
        have bj : Below Wb.heap.size Wb Wc := by rw [hW]; exact new_alloc _ _
        have HKc := aside (HKb.out.new bj)
        have HDc : Aside (Wc.heap[hd]? = some (.cells C2 49 (0, 0))) := by rw [hW, hhd]; exact heap_new _ _
        have HVc := aside (ownsRow_new HVb.out bj)
        rw [← hW, ← hhd]
        refine hK.out _ Wc (HC1.out.keeps HKc.out HG.out.1 HG.out.2.1 HG.out.2.2) (fun hHeld => ?_)
        clear hK K hW bj hhd
        try simp only [Act.put, ps]
        refine wpAnyH_ready (rs := [11]) (by kernel_rfl) (by simp) ?_
        refine AllReadyH.cons (o := _) rfl (fun K hK => ?_) AllReadyH.nil
        refine step_append_m rfl _ _ 29 rfl 49 (.agg (recCells {})) 49 216 Tryz.underlying29 Tryz.infoRec rfl (by decide) w1.heap.size v2 2 _ rfl HVc.out hd 0 2 2 comR rfl rfl ?_ comR_one (by decide) (by decide) HKc.out.size ?_
        · intro j u hu; rw [Nat.zero_add, cell_whole HDc.out, HC2.out]; simpa using hu
        intro v4 Wd hown hgr hloc
        have HVd := aside hown
        have HKd : Aside (Keeps (· < w1.heap.size) w1 Wd) := HKc.out.trans (keeps_grown hgr (· < w1.heap.size) (fun k hk => Nat.not_lt.2 (World.ownsRow.lt HVc.out k hk).1))
        clear hown hgr hloc
        refine hK.out _ Wd (HC1.out.keeps HKd.out HG.out.1 HG.out.2.1 HG.out.2.2) (fun hHeld => ?_)
        clear hK K
        try simp only [Act.put, ps]
        refine wpAnyH_take (i := 12) (oi := _) (v := v4) rfl (by kernel_rfl) (by kernel_rfl) (by kernel_rfl) (fun _ _ _ h => h) (Or.inl ⟨by rfl, ?_⟩) hHeld ?_
        · intro W hSw
          go_simp
        try simp only [Act.put, ps]
        refine wpAnyH_done (by kernel_rfl) ?_ _
        clear hHeld
        apply_assumption
        go_meet
        case rel => exact late_fin HB1.out HC1.out HG.out HKd.out HVd.out
      · refine step_slices_by (by rfl) 29 2 [(0, .tmp 17), (1, .tmp 20)] rfl [(0, .agg cp.toArray), (1, .agg cp.toArray)] rfl _ (HS2.out _) ?_
        obtain ⟨hd, hhd⟩ : ∃ x, x = Wa.heap.size := ⟨_, rfl⟩
        obtain ⟨Wb, hW⟩ : ∃ z, z = Wa.alloc (.cells C2 49) := ⟨_, rfl⟩
        have bj : Below Wa.heap.size Wa Wb := by rw [hW]; exact new_alloc _ _
        have HKb := aside (HKa.out.new bj)
        have HDb : Aside (Wb.heap[hd]? = some (.cells C2 49 (0, 0))) := by rw [hW, hhd]; exact heap_new _ _
        have HEb := aside (ownsRow_new HEa.out bj)
        have HNE : Aside (hd ≠ h0) := by rw [hhd]; exact Ne.symm (Nat.ne_of_lt (World.ownsRow.lt HEa.out h0 rfl).2)
        rw [← hW, ← hhd]
        refine hK.out _ Wb (HC1.out.keeps HKb.out HG.out.1 HG.out.2.1 HG.out.2.2) (fun hHeld => ?_)
        clear hK K hW bj hhd
        try simp only [Act.put, ps]
        refine wpAnyH_ready (rs := [3]) (by kernel_rfl) (by simp) ?_
        refine AllReadyH.cons (o := _) rfl (fun K hK => ?_) AllReadyH.nil
        refine step_append_m rfl _ _ 29 rfl 49 (.agg (recCells {})) 49 216 Tryz.underlying29 Tryz.infoRec rfl (by decide) w1.heap.size (.slice (some ⟨h0, 0, none⟩) 0 0) 0 [] rfl HEb.out g 0 2 6 (twoR A B) rfl (twoR_len A B) ?_ (twoR_one A B) (by decide) (by decide) HKb.out.size ?_
        · intro j u hu; rw [Nat.zero_add, cell_whole (HC1.out.keeps HKb.out HG.out.1 HG.out.2.1 HG.out.2.2).row]; exact two_cell A B hu
        intro v2 Wc hown hgr hloc
        have HVc := aside hown
        have HKc : Aside (Keeps (· < w1.heap.size) w1 Wc) := HKb.out.trans (keeps_grown hgr (· < w1.heap.size) (fun k hk => Nat.not_lt.2 (World.ownsRow.lt HEb.out k hk).1))
        have HDc : Aside (Wc.heap[hd]? = some (.cells C2 49 (0, 0))) := whole_keeps HDb.out (keeps_grown hgr (· ≠ h0) (fun k hk hn => hn (Option.some.inj (show some h0 = some k from hk)).symm)) HNE.out
        clear hown hgr hloc
        refine hK.out _ Wc (HC1.out.keeps HKc.out HG.out.1 HG.out.2.1 HG.out.2.2) (fun hHeld => ?_)
        clear hK K
        try simp only [Act.put, ps]
        refine wpAnyH_ready (rs := [11]) (by kernel_rfl) (by simp) ?_
        refine AllReadyH.cons (o := _) rfl (fun K hK => ?_) AllReadyH.nil
        refine step_append_m rfl _ _ 29 rfl 49 (.agg (recCells {})) 49 216 Tryz.underlying29 Tryz.infoRec rfl (by decide) w1.heap.size v2 2 _ rfl HVc.out hd 0 2 2 comR rfl rfl ?_ comR_one (by decide) (by decide) HKc.out.size ?_
        · intro j u hu; rw [Nat.zero_add, cell_whole HDc.out, HC2.out]; simpa using hu
        intro v4 Wd hown hgr hloc
        have HVd := aside hown
        have HKd : Aside (Keeps (· < w1.heap.size) w1 Wd) := HKc.out.trans (keeps_grown hgr (· < w1.heap.size) (fun k hk => Nat.not_lt.2 (World.ownsRow.lt HVc.out k hk).1))
        clear hown hgr hloc
        refine hK.out _ Wd (HC1.out.keeps HKd.out HG.out.1 HG.out.2.1 HG.out.2.2) (fun hHeld => ?_)
        clear hK K
        try simp only [Act.put, ps]
        refine wpAnyH_take (i := 12) (oi := _) (v := v4) rfl (by kernel_rfl) (by kernel_rfl) (by kernel_rfl) (fun _ _ _ h => h) (Or.inl ⟨by rfl, ?_⟩) hHeld ?_
        · intro W hSw
          go_simp
        try simp only [Act.put, ps]
        refine wpAnyH_done (by kernel_rfl) ?_ _
        clear hHeld
        apply_assumption
        go_meet
        case rel => exact late_fin HB1.out HC1.out HG.out HKd.out HVd.out
    · refine step_slices_by (by rfl) 29 2 [(0, .tmp 17), (1, .tmp 20)] rfl [(0, .agg cp.toArray), (1, .agg cp.toArray)] rfl _ (HS2.out _) ?_
      obtain ⟨hd, hhd⟩ : ∃ x, x = W0.heap.size := ⟨_, rfl⟩
      obtain ⟨Wa, hW⟩ : ∃ z, z = W0.alloc (.cells C2 49) := ⟨_, rfl⟩
      have bj : Below W0.heap.size W0 Wa := by rw [hW]; exact new_alloc _ _
      have HKa := aside (HK0.out.new bj)
      have HDa : Aside (Wa.heap[hd]? = some (.cells C2 49 (0, 0))) := by rw [hW, hhd]; exact heap_new _ _
      rw [← hW, ← hhd]
      refine hK.out _ Wa (HC1.out.keeps HKa.out HG.out.1 HG.out.2.1 HG.out.2.2) (fun hHeld => ?_)
      clear hK K hW bj hhd
      try simp only [Act.put, ps]
      refine wpAnyH_ready (rs := [0]) (by kernel_rfl) (by simp) ?_
      refine AllReadyH.cons (o := _) rfl (fun K hK => ?_) AllReadyH.nil
      refine step_slices_by (by rfl) 29 0 [] rfl [] rfl _ (recs_slice0 _) ?_
      obtain ⟨h0, hh0⟩ : ∃ x, x = Wa.heap.size := ⟨_, rfl⟩
      obtain ⟨Wb, hW⟩ : ∃ z, z = Wa.alloc (.cells #[] 49) := ⟨_, rfl⟩
      have bj : Below Wa.heap.size Wa Wb := by rw [hW]; exact new_alloc _ _
      have HKb := aside (HKa.out.new bj)
      have HEb : Aside (Wb.ownsRow w1.heap.size 49 49 (.slice (some ⟨h0, 0, none⟩) 0 0) 0 []) := ⟨rfl, .inr ⟨h0, 0, #[], rfl, by rw [hh0]; exact HKa.out.size, by rw [hW, hh0]; exact heap_new _ _, Nat.le_refl _, by decide, rfl, rfl⟩⟩
      have HDb := aside (whole_new HDa.out bj)
      have HNE : Aside (hd ≠ h0) := by rw [hh0]; exact Nat.ne_of_lt (whole_lt HDa.out)
      rw [← hW, ← hh0]
      refine hK.out _ Wb (HC1.out.keeps HKb.out HG.out.1 HG.out.2.1 HG.out.2.2) (fun hHeld => ?_)
      clear hK K hW bj hh0
      try simp only [Act.put, ps]
      refine wpAnyH_ready (rs := [3]) (by kernel_rfl) (by simp) ?_
      refine AllReadyH.cons (o := _) rfl (fun K hK => ?_) AllReadyH.nil
      refine step_append_m rfl _ _ 29 rfl 49 (.agg (recCells {})) 49 216 Tryz.underlying29 Tryz.infoRec rfl (by decide) w1.heap.size (.slice (some ⟨h0, 0, none⟩) 0 0) 0 [] rfl HEb.out g 0 2 6 (twoR A B) rfl (twoR_len A B) ?_ (twoR_one A B) (by decide) (by decide) HKb.out.size ?_
      · intro j u hu; rw [Nat.zero_add, cell_whole (HC1.out.keeps HKb.out HG.out.1 HG.out.2.1 HG.out.2.2).row]; exact two_cell A B hu
      intro v2 Wc hown hgr hloc
      have HVc := aside hown
      have HKc : Aside (Keeps (· < w1.heap.size) w1 Wc) := HKb.out.trans (keeps_grown hgr (· < w1.heap.size) (fun k hk => Nat.not_lt.2 (World.ownsRow.lt HEb.out k hk).1))
      have HDc : Aside (Wc.heap[hd]? = some (.cells C2 49 (0, 0))) := whole_keeps HDb.out (keeps_grown hgr (· ≠ h0) (fun k hk hn => hn (Option.some.inj (show some h0 = some k from hk)).symm)) HNE.out
      clear hown hgr hloc
      refine hK.out _ Wc (HC1.out.keeps HKc.out HG.out.1 HG.out.2.1 HG.out.2.2) (fun hHeld => ?_)
      clear hK K
      try simp only [Act.put, ps]
      refine wpAnyH_ready (rs := [11]) (by kernel_rfl) (by simp) ?_
      refine AllReadyH.cons (o := _) rfl (fun K hK => ?_) AllReadyH.nil
      refine step_append_m rfl _ _ 29 rfl 49 (.agg (recCells {})) 49 216 Tryz.underlying29 Tryz.infoRec rfl (by decide) w1.heap.size v2 2 _ rfl HVc.out hd 0 2 2 comR rfl rfl ?_ comR_one (by decide) (by decide) HKc.out.size ?_
      · intro j u hu; rw [Nat.zero_add, cell_whole HDc.out, HC2.out]; simpa using hu
      intro v4 Wd hown hgr hloc
      have HVd := aside hown
      have HKd : Aside (Keeps (· < w1.heap.size) w1 Wd) := HKc.out.trans (keeps_grown hgr (· < w1.heap.size) (fun k hk => Nat.not_lt.2 (World.ownsRow.lt HVc.out k hk).1))
      clear hown hgr hloc
      refine hK.out _ Wd (HC1.out.keeps HKd.out HG.out.1 HG.out.2.1 HG.out.2.2) (fun hHeld => ?_)
      clear hK K
      try simp only [Act.put, ps]
      refine wpAnyH_take (i := 12) (oi := _) (v := v4) rfl (by kernel_rfl) (by kernel_rfl) (by kernel_rfl) (fun _ _ _ h => h) (Or.inl ⟨by rfl, ?_⟩) hHeld ?_
      · intro W hSw
        go_simp
      try simp only [Act.put, ps]
      refine wpAnyH_done (by kernel_rfl) ?_ _
      clear hHeld
      apply_assumption
      go_meet
      case rel => exact late_fin HB1.out HC1.out HG.out HKd.out HVd.out

  case rest =>
  obtain ⟨w2, hw2⟩ : ∃ z, z = wc := ⟨_, rfl⟩
  have hla := hcut.out
  rw [← hw2] at hla ⊢
  clear hw2 wc hcut HC1 HB1
  obtain ⟨hch, hrow, hbel, hne⟩ := hla
  obtain ⟨Lb, cap, cur, rfl, hLB, hLh, hL4, hLcm, hLs, hcells⟩ := row_cur (n := 4) (by decide) hrow
  have HCH := aside hch
  have HBEL := aside hbel
  have HLH := aside hLh
  have HCELLS := aside hcells
  have HLB : Aside (w.heap.size ≤ Lb) := hLB
  have HNE : Aside (Lb ≠ g) := hne Lb rfl
  have HLAB : Aside (Lb ≠ A ∧ Lb ≠ B) := ⟨fun e => by rw [e, hch.lots] at hLh; injection hLh with h; injection h with _ h _; revert h; decide, fun e => by rw [e, hch.owners] at hLh; injection hLh with h; injection h with _ h _; revert h; decide⟩
  have c102 : w2.cell? ⟨Lb, 102, none⟩ = some (.int .i64 4) := hcells 102 _ (by kernel_rfl)
  have f102 := frozen_whole hLh 102
  have c150 : w2.cell? ⟨Lb, 150, none⟩ = some (.int .i64 0) := hcells 150 _ (by kernel_rfl)
  have f150 := frozen_whole hLh 150
  clear hch hrow hbel hne hLh hcells hLB hLs hLcm
  go_upto_region 5 with fail
  obtain ⟨w3, hw3⟩ : ∃ z, z = (w2.setCell ⟨Lb, 102, none⟩ (.int .i64 5)).setCell ⟨Lb, 150, none⟩ (.int .i64 1) := ⟨_, rfl⟩
  have HK3 : Aside (Keeps (· ≠ Lb) w2 w3) := by rw [hw3]; exact ((Keeps.refl _ _).setCell (p := ⟨Lb, 102, none⟩) (.inr (fun h => h rfl)) _).setCell (p := ⟨Lb, 150, none⟩) (.inr (fun h => h rfl)) _
  have HL3 : Aside (w3.heap[Lb]? = some (.cells ((cur.setIfInBounds 102 (.int .i64 5)).setIfInBounds 150 (.int .i64 1)) 49 (0, 0))) := by rw [hw3]; exact whole_set (whole_set HLH.out 102 _) 150 _
  rw [← hw3]
  clear hw3 c102 f102 c150 f150
  have HC3 : Aside (ChapAt w.heap.size w3 g A B (2, 1, 50)) := HCH.out.keeps HK3.out HNE.out.symm HLAB.out.1.symm HLAB.out.2.symm
  have HB3 : Aside (Below w.heap.size w w3) := below_trans_keeps HBEL.out HK3.out (fun k hk e => by have := HLB.out; omega)
  have HR3 : Aside (RecsAt w3 (.slice (some ⟨Lb, 0, none⟩) 4 cap) lateD) := late_recs HC3.out HL3.out hL4 fun k u hu => by
    have := HCELLS.out k u hu
    rwa [cell_whole HLH.out] at this
  go_wp2_with fail
  refine (play_of opf0 (chap_in HC3.out (by decide))).mono ?_
  rintro e w4 ⟨hb4, hr⟩
  rw [fail_sold, owners_sold, outs_sold] at hr
  rcases hr with ⟨_, u, v, rfl, hu, hv⟩ | ⟨_, _, _, h0, _⟩
  case inr => cases h0
  obtain ⟨O, oc, ocur, rfl, hOb, _, _, _, _, hO⟩ := row_cur (n := 2) (by decide) hu
  obtain ⟨U, uc, ucur, rfl, hUb, hUh, _, _, _, hU⟩ := row_cur (n := 1) (by decide) hv
  have HB4 : Aside (Below w.heap.size w w4) := st_new w _ _ HB3.out hb4
  have HC4 := aside (HC3.out.new hb4)
  have HR4 := aside (HR3.out.on hb4)
  have O0 : Aside (w4.cell? ⟨O, 0, none⟩ = some (.int .i64 0)) := hO 0 _ rfl
  have O1 : Aside (w4.cell? ⟨O, 1, none⟩ = some (.int .i64 1)) := hO 1 _ rfl
  have U0 : Aside (∀ j u, [Value.int .i64 2, .int .i64 1, .int .u64 50][j]? = some u → w4.cell? ⟨U, j, none⟩ = some u) := fun j u hj => hU j u hj
  clear hb4 hu hv hO hU hUh hUb hOb HC3 HR3 HB3
  go_wp2_with fail
  refine (play_of opf0 (nil_in w4)).mono ?_
  rintro e w5 ⟨hb5, hr⟩
  rcases hr with ⟨_, u, v, rfl, hu, hv⟩ | ⟨_, _, _, h0, _⟩
  case inr => cases h0
  obtain ⟨a6, c6, e6, _⟩ := ownsRow_form hu
  obtain ⟨a7, c7, e7, _⟩ := ownsRow_form hv
  obtain rfl : u = .slice a6 0 c6 := e6
  obtain rfl : v = .slice a7 0 c7 := e7
  have HB5 : Aside (Below w.heap.size w w5) := st_new w _ _ HB4.out hb5
  have HC5 := aside (HC4.out.new hb5)
  have HR5 := aside (HR4.out.on hb5)
  have o0 : w5.cell? ⟨O, 0, none⟩ = some (.int .i64 0) := (hb5.cell (cell_lt O0.out)).trans O0.out
  have o1 : w5.cell? ⟨O, 1, none⟩ = some (.int .i64 1) := (hb5.cell (cell_lt O1.out)).trans O1.out
  obtain ⟨cu, hcu⟩ : ∃ c : List Value, c = [.int .i64 2, .int .i64 1, .int .u64 50] := ⟨_, rfl⟩
  have hi4 : (Tryz.prog.info? 46).map (·.size) = some cu.length := by rw [hcu]; kernel_rfl
  have HUR : Aside (∀ W, Below w5.heap.size w5 W → W.rangeAt U 0 cu) := by
    rw [hcu]
    intro W hW j u hu
    rw [Nat.zero_add]
    have h1 := (hb5.cell (cell_lt (U0.out j u hu))).trans (U0.out j u hu)
    exact (hW.cell (cell_lt h1)).trans h1
  have HCR : Aside (∀ W, Below w5.heap.size w5 W → W.rangeAt g (0 + 245 + 40) cu) := by
    rw [hcu]
    intro W hW j u hu
    have hj : j < 3 := (List.getElem?_eq_some_iff.1 hu).1
    rw [cell_whole (HC5.out.new hW).row]
    match j, hj with
    | 0, _ | 1, _ | 2, _ => exact Eq.trans (by kernel_rfl) hu
    | _ + 3, h => omega
  have HCU := aside hcu
  have heq : ∀ W, (binOp .eql 46 (.agg cu.toArray) (.agg cu.toArray)).run Tryz.prog W = .ok (.bool true) W := fun W => by rw [hcu]; exact eqOutM 2 1 50 2 1 50 W
  clear hb5 hu hv HC4 HR4 HB4 O0 O1 U0 hcu
  go_upto_region 7 with fail
  refine wp_region_held_drew (S := fun W => Below w5.heap.size w5 W) (by kernel_rfl) (new_drew w5) (fun hHeld => ?_)
  refine wpAnyH_take (i := 0) (oi := _) (v := .slice (some ⟨Lb, 0, none⟩) 4 cap) rfl (by kernel_rfl) (by kernel_rfl) (by kernel_rfl) (fun _ _ _ h => h) (Or.inl ⟨by rfl, ?_⟩) hHeld ?_
  · intro W hSw
    go_simp
  try simp only [Act.put, ps]
  refine wpAnyH_ready (rs := [1]) (by kernel_rfl) (by simp) ?_
  refine AllReadyH.cons (o := _) rfl (fun K hK => ?_) AllReadyH.nil
  go_simp
  refine (mwrong_any opf0 _ _ _ (late_in (HR5.out.on (new_drew w5))) (HT.out.on (st_new w _ _ HB5.out (new_drew w5))) 22 3 fail_late).mono ?_
  rintro e x1 ⟨rfl, hx1⟩
  have HX1 : Aside (Below w5.heap.size w5 x1) := st_new w5 _ _ (new_drew w5) hx1
  clear hx1
  try go_simp
  refine hK.out _ x1 HX1.out (fun hHeld => ?_)
  clear hK K
  try simp only [Act.put, ps]
  refine wpAnyH_take (i := 2) (oi := _) (v := .bool true) rfl (by kernel_rfl) (by kernel_rfl) (by kernel_rfl) (fun _ _ _ h => h) (Or.inl ⟨by rfl, ?_⟩) hHeld ?_
  · intro W hSw
    go_simp
  try simp only [Act.put, ps]
  refine wpAnyH_take (i := 3) (oi := _) (v := .nilIface) rfl (by kernel_rfl) (by kernel_rfl) (by kernel_rfl) (fun _ _ _ h => h) (Or.inl ⟨by rfl, ?_⟩) hHeld ?_
  · intro W hSw
    go_simp
  try simp only [Act.put, ps]
  refine wpAnyH_take (i := 4) (oi := _) (v := .bool true) rfl (by kernel_rfl) (by kernel_rfl) (by kernel_rfl) (fun _ _ _ h => h) (Or.inl ⟨by rfl, ?_⟩) hHeld ?_
  · intro W hSw
    go_simp
  try simp only [Act.put, ps]
  refine wpAnyH_take (i := 5) (oi := _) (v := .bool true) rfl (by kernel_rfl) (by kernel_rfl) (by kernel_rfl) (fun _ _ _ h => h) (Or.inl ⟨by rfl, ?_⟩) hHeld ?_
  · intro W hSw
    go_simp
  try simp only [Act.put, ps]
  refine wpAnyH_take (i := 6) (oi := _) (v := .bool true) rfl (by kernel_rfl) (by kernel_rfl) (by kernel_rfl) (fun _ _ _ h => h) (Or.inl ⟨by rfl, ?_⟩) hHeld ?_
  · intro W hSw
    go_simp
  try simp only [Act.put, ps]
  refine wpAnyH_take (i := 7) (oi := _) (v := .slice (some ⟨O, 0, none⟩) 2 oc) rfl (by kernel_rfl) (by kernel_rfl) (by kernel_rfl) (fun _ _ _ h => h) (Or.inl ⟨by rfl, ?_⟩) hHeld ?_
  · intro W hSw
    go_simp
  try simp only [Act.put, ps]
  refine wpAnyH_take (i := 8) (oi := _) (v := .int .i64 2) rfl (by kernel_rfl) (by kernel_rfl) (by kernel_rfl) (fun _ _ _ h => h) (Or.inl ⟨by rfl, ?_⟩) hHeld ?_
  · intro W hSw
    go_simp
  try simp only [Act.put, ps]
  refine wpAnyH_take (i := 9) (oi := _) (v := .bool true) rfl (by kernel_rfl) (by kernel_rfl) (by kernel_rfl) (fun _ _ _ h => h) (Or.inl ⟨by rfl, ?_⟩) hHeld ?_
  · intro W hSw
    go_simp
  try simp only [Act.put, ps]
  refine wpAnyH_take (i := 10) (oi := _) (v := .bool true) rfl (by kernel_rfl) (by kernel_rfl) (by kernel_rfl) (fun _ _ _ h => h) (Or.inl ⟨by rfl, ?_⟩) hHeld ?_
  · intro W hSw
    go_simp
  try simp only [Act.put, ps]
  refine wpAnyH_take (i := 11) (oi := _) (v := .bool true) rfl (by kernel_rfl) (by kernel_rfl) (by kernel_rfl) (fun _ _ _ h => h) (Or.inl ⟨by rfl, ?_⟩) hHeld ?_
  · intro W hSw
    go_simp
  try simp only [Act.put, ps]
  refine wpAnyH_take (i := 12) (oi := _) (v := .slice (some ⟨O, 0, none⟩) 2 oc) rfl (by kernel_rfl) (by kernel_rfl) (by kernel_rfl) (fun _ _ _ h => h) (Or.inl ⟨by rfl, ?_⟩) hHeld ?_
  · intro W hSw
    go_simp
  try simp only [Act.put, ps]
  refine wpAnyH_take (i := 13) (oi := _) (v := .pointer (some ⟨O, 0, none⟩)) rfl (by kernel_rfl) (by kernel_rfl) (by kernel_rfl) (fun _ _ _ h => h) (Or.inl ⟨by rfl, ?_⟩) hHeld ?_
  · intro W hSw
    go_simp
  try simp only [Act.put, ps]
  refine wpAnyH_take (i := 14) (oi := _) (v := .int .i64 0) rfl (by kernel_rfl) (by kernel_rfl) (by kernel_rfl) (fun _ _ _ h => h) (Or.inl ⟨by rfl, ?_⟩) hHeld ?_
  · intro W hSw
    have c := (hSw.cell (cell_lt o0)).trans o0
    go_simp
  try simp only [Act.put, ps]
  refine wpAnyH_take (i := 15) (oi := _) (v := .bool true) rfl (by kernel_rfl) (by kernel_rfl) (by kernel_rfl) (fun _ _ _ h => h) (Or.inl ⟨by rfl, ?_⟩) hHeld ?_
  · intro W hSw
    go_simp
  try simp only [Act.put, ps]
  refine wpAnyH_take (i := 16) (oi := _) (v := .bool true) rfl (by kernel_rfl) (by kernel_rfl) (by kernel_rfl) (fun _ _ _ h => h) (Or.inl ⟨by rfl, ?_⟩) hHeld ?_
  · intro W hSw
    go_simp
  try simp only [Act.put, ps]
  refine wpAnyH_take (i := 17) (oi := _) (v := .bool true) rfl (by kernel_rfl) (by kernel_rfl) (by kernel_rfl) (fun _ _ _ h => h) (Or.inl ⟨by rfl, ?_⟩) hHeld ?_
  · intro W hSw
    go_simp
  try simp only [Act.put, ps]
  refine wpAnyH_take (i := 18) (oi := _) (v := .slice (some ⟨O, 0, none⟩) 2 oc) rfl (by kernel_rfl) (by kernel_rfl) (by kernel_rfl) (fun _ _ _ h => h) (Or.inl ⟨by rfl, ?_⟩) hHeld ?_
  · intro W hSw
    go_simp
  try simp only [Act.put, ps]
  refine wpAnyH_take (i := 19) (oi := _) (v := .pointer (some ⟨O, 1, none⟩)) rfl (by kernel_rfl) (by kernel_rfl) (by kernel_rfl) (fun _ _ _ h => h) (Or.inl ⟨by rfl, ?_⟩) hHeld ?_
  · intro W hSw
    go_simp
  try simp only [Act.put, ps]
  refine wpAnyH_take (i := 20) (oi := _) (v := .int .i64 1) rfl (by kernel_rfl) (by kernel_rfl) (by kernel_rfl) (fun _ _ _ h => h) (Or.inl ⟨by rfl, ?_⟩) hHeld ?_
  · intro W hSw
    have c := (hSw.cell (cell_lt o1)).trans o1
    go_simp
  try simp only [Act.put, ps]
  refine wpAnyH_take (i := 21) (oi := _) (v := .bool true) rfl (by kernel_rfl) (by kernel_rfl) (by kernel_rfl) (fun _ _ _ h => h) (Or.inl ⟨by rfl, ?_⟩) hHeld ?_
  · intro W hSw
    go_simp
  try simp only [Act.put, ps]
  refine wpAnyH_take (i := 22) (oi := _) (v := .bool true) rfl (by kernel_rfl) (by kernel_rfl) (by kernel_rfl) (fun _ _ _ h => h) (Or.inl ⟨by rfl, ?_⟩) hHeld ?_
  · intro W hSw
    go_simp
  try simp only [Act.put, ps]
  refine wpAnyH_take (i := 23) (oi := _) (v := .bool true) rfl (by kernel_rfl) (by kernel_rfl) (by kernel_rfl) (fun _ _ _ h => h) (Or.inl ⟨by rfl, ?_⟩) hHeld ?_
  · intro W hSw
    go_simp
  try simp only [Act.put, ps]
  refine wpAnyH_take (i := 24) (oi := _) (v := .slice (some ⟨U, 0, none⟩) 1 uc) rfl (by kernel_rfl) (by kernel_rfl) (by kernel_rfl) (fun _ _ _ h => h) (Or.inl ⟨by rfl, ?_⟩) hHeld ?_
  · intro W hSw
    go_simp
  try simp only [Act.put, ps]
  refine wpAnyH_take (i := 25) (oi := _) (v := .int .i64 1) rfl (by kernel_rfl) (by kernel_rfl) (by kernel_rfl) (fun _ _ _ h => h) (Or.inl ⟨by rfl, ?_⟩) hHeld ?_
  · intro W hSw
    go_simp
  try simp only [Act.put, ps]
  refine wpAnyH_take (i := 26) (oi := _) (v := .bool true) rfl (by kernel_rfl) (by kernel_rfl) (by kernel_rfl) (fun _ _ _ h => h) (Or.inl ⟨by rfl, ?_⟩) hHeld ?_
  · intro W hSw
    go_simp
  try simp only [Act.put, ps]
  refine wpAnyH_take (i := 27) (oi := _) (v := .bool true) rfl (by kernel_rfl) (by kernel_rfl) (by kernel_rfl) (fun _ _ _ h => h) (Or.inl ⟨by rfl, ?_⟩) hHeld ?_
  · intro W hSw
    go_simp
  try simp only [Act.put, ps]
  refine wpAnyH_take (i := 28) (oi := _) (v := .bool true) rfl (by kernel_rfl) (by kernel_rfl) (by kernel_rfl) (fun _ _ _ h => h) (Or.inl ⟨by rfl, ?_⟩) hHeld ?_
  · intro W hSw
    go_simp
  try simp only [Act.put, ps]
  refine wpAnyH_take (i := 29) (oi := _) (v := .slice (some ⟨U, 0, none⟩) 1 uc) rfl (by kernel_rfl) (by kernel_rfl) (by kernel_rfl) (fun _ _ _ h => h) (Or.inl ⟨by rfl, ?_⟩) hHeld ?_
  · intro W hSw
    go_simp
  try simp only [Act.put, ps]
  refine wpAnyH_take (i := 30) (oi := _) (v := .pointer (some ⟨U, 0, none⟩)) rfl (by kernel_rfl) (by kernel_rfl) (by kernel_rfl) (fun _ _ _ h => h) (Or.inl ⟨by rfl, ?_⟩) hHeld ?_
  · intro W hSw
    go_simp
  try simp only [Act.put, ps]
  refine wpAnyH_take (i := 31) (oi := _) (v := .agg cu.toArray) rfl (by kernel_rfl) (by kernel_rfl) (by kernel_rfl) (fun _ _ _ h => h) (yieldsIf_load_mid (by rfl) 46 (.tmp 70) rfl U 0 rfl cu _ (fun W hW => HUR.out W hW) Tryz.underlying46 rfl hi4) hHeld ?_
  try simp only [Act.put, ps]
  refine wpAnyH_take (i := 32) (oi := _) (v := .slice (some ⟨g, 0, none⟩) 6 6) rfl (by kernel_rfl) (by kernel_rfl) (by kernel_rfl) (fun _ _ _ h => h) (Or.inl ⟨by rfl, ?_⟩) hHeld ?_
  · intro W hSw
    go_simp
  try simp only [Act.put, ps]
  refine wpAnyH_take (i := 33) (oi := _) (v := .pointer (some ⟨g, 0 + 245, none⟩)) rfl (by kernel_rfl) (by kernel_rfl) (by kernel_rfl) (fun _ _ _ h => h) (Or.inl ⟨by rfl, ?_⟩) hHeld ?_
  · intro W hSw
    go_simp
  try simp only [Act.put, ps]
  refine wpAnyH_take (i := 34) (oi := _) (v := .pointer (some ⟨g, 0 + 245 + 40, none⟩)) rfl (by kernel_rfl) (by kernel_rfl) (by kernel_rfl) (fun _ _ _ h => h) (Or.inl ⟨by rfl, ?_⟩) hHeld ?_
  · intro W hSw
    go_simp
  try simp only [Act.put, ps]
  refine wpAnyH_take (i := 35) (oi := _) (v := .agg cu.toArray) rfl (by kernel_rfl) (by kernel_rfl) (by kernel_rfl) (fun _ _ _ h => h) (yieldsIf_load_mid (by rfl) 46 (.tmp 74) rfl g (0 + 245 + 40) rfl cu _ (fun W hW => HCR.out W hW) Tryz.underlying46 rfl hi4) hHeld ?_
  try simp only [Act.put, ps]
  refine wpAnyH_take (i := 36) (oi := _) (v := .bool true) rfl (by kernel_rfl) (by kernel_rfl) (by kernel_rfl) (fun _ _ _ h => h) (Or.inl ⟨by rfl, ?_⟩) hHeld ?_
  · intro W hSw
    go_simp
  try simp only [Act.put, ps]
  refine wpAnyH_take (i := 37) (oi := _) (v := .bool true) rfl (by kernel_rfl) (by kernel_rfl) (by kernel_rfl) (fun _ _ _ h => h) (Or.inl ⟨by rfl, ?_⟩) hHeld ?_
  · intro W hSw
    go_simp
  try simp only [Act.put, ps]
  refine wpAnyH_take (i := 38) (oi := _) (v := .bool true) rfl (by kernel_rfl) (by kernel_rfl) (by kernel_rfl) (fun _ _ _ h => h) (Or.inl ⟨by rfl, ?_⟩) hHeld ?_
  · intro W hSw
    go_simp
  try simp only [Act.put, ps]
  refine wpAnyH_take (i := 39) (oi := _) (v := .agg #[.int .i64 2, .int .i64 1, .int .u64 9]) rfl (by kernel_rfl) (by kernel_rfl) (by kernel_rfl) (fun _ _ _ h => h) (Or.inl ⟨by rfl, ?_⟩) hHeld ?_
  · intro W hSw
    go_simp
  try simp only [Act.put, ps]
  refine wpAnyH_ready (rs := [40]) (by kernel_rfl) (by simp) ?_
  refine AllReadyH.cons (o := _) rfl (fun K hK => ?_) AllReadyH.nil
  go_simp
  refine (chapter_any 2 1 9 x1).mono ?_
  rintro e x2 ⟨g9, A9, B9, rfl, hx2, hc9⟩
  have HX2 : Aside (Below w5.heap.size w5 x2) := st_new w5 _ _ HX1.out hx2
  have HC9 := aside hc9
  clear hx2 hc9
  try go_simp
  refine hK.out _ x2 HX2.out (fun hHeld => ?_)
  clear hK K
  try simp only [Act.put, ps]
  refine wpAnyH_ready (rs := [41]) (by kernel_rfl) (by simp) ?_
  refine AllReadyH.cons (o := _) rfl (fun K hK => ?_) AllReadyH.nil
  go_simp
  refine (mwrong_any opf0 _ _ _ (chap_in HC9.out (by decide)) (HT.out.on (st_new w _ _ HB5.out HX2.out)) 22 5 fail_nine).mono ?_
  rintro e x3 ⟨rfl, hx3⟩
  have HX3 : Aside (Below w5.heap.size w5 x3) := st_new w5 _ _ HX2.out hx3
  clear hx3
  try go_simp
  refine hK.out _ x3 HX3.out (fun hHeld => ?_)
  clear hK K
  try simp only [Act.put, ps]
  refine wpAnyH_take (i := 42) (oi := _) (v := .bool true) rfl (by kernel_rfl) (by kernel_rfl) (by kernel_rfl) (fun _ _ _ h => h) (Or.inl ⟨by rfl, ?_⟩) hHeld ?_
  · intro W hSw
    go_simp
  try simp only [Act.put, ps]
  refine wpAnyH_take (i := 43) (oi := _) (v := .bool true) rfl (by kernel_rfl) (by kernel_rfl) (by kernel_rfl) (fun _ _ _ h => h) (Or.inl ⟨by rfl, ?_⟩) hHeld ?_
  · intro W hSw
    go_simp
  try simp only [Act.put, ps]
  refine wpAnyH_take (i := 44) (oi := _) (v := .nilIface) rfl (by kernel_rfl) (by kernel_rfl) (by kernel_rfl) (fun _ _ _ h => h) (Or.inl ⟨by rfl, ?_⟩) hHeld ?_
  · intro W hSw
    go_simp
  try simp only [Act.put, ps]
  refine wpAnyH_take (i := 45) (oi := _) (v := .bool true) rfl (by kernel_rfl) (by kernel_rfl) (by kernel_rfl) (fun _ _ _ h => h) (Or.inl ⟨by rfl, ?_⟩) hHeld ?_
  · intro W hSw
    go_simp
  try simp only [Act.put, ps]
  refine wpAnyH_take (i := 46) (oi := _) (v := .bool true) rfl (by kernel_rfl) (by kernel_rfl) (by kernel_rfl) (fun _ _ _ h => h) (Or.inl ⟨by rfl, ?_⟩) hHeld ?_
  · intro W hSw
    go_simp
  try simp only [Act.put, ps]
  refine wpAnyH_take (i := 47) (oi := _) (v := .bool true) rfl (by kernel_rfl) (by kernel_rfl) (by kernel_rfl) (fun _ _ _ h => h) (Or.inl ⟨by rfl, ?_⟩) hHeld ?_
  · intro W hSw
    go_simp
  try simp only [Act.put, ps]
  refine wpAnyH_take (i := 48) (oi := _) (v := .slice a6 0 c6) rfl (by kernel_rfl) (by kernel_rfl) (by kernel_rfl) (fun _ _ _ h => h) (Or.inl ⟨by rfl, ?_⟩) hHeld ?_
  · intro W hSw
    go_simp
  try simp only [Act.put, ps]
  refine wpAnyH_take (i := 49) (oi := _) (v := .int .i64 0) rfl (by kernel_rfl) (by kernel_rfl) (by kernel_rfl) (fun _ _ _ h => h) (Or.inl ⟨by rfl, ?_⟩) hHeld ?_
  · intro W hSw
    go_simp
  try simp only [Act.put, ps]
  refine wpAnyH_take (i := 50) (oi := _) (v := .bool true) rfl (by kernel_rfl) (by kernel_rfl) (by kernel_rfl) (fun _ _ _ h => h) (Or.inl ⟨by rfl, ?_⟩) hHeld ?_
  · intro W hSw
    go_simp
  try simp only [Act.put, ps]
  refine wpAnyH_take (i := 51) (oi := _) (v := .bool true) rfl (by kernel_rfl) (by kernel_rfl) (by kernel_rfl) (fun _ _ _ h => h) (Or.inl ⟨by rfl, ?_⟩) hHeld ?_
  · intro W hSw
    go_simp
  try simp only [Act.put, ps]
  refine wpAnyH_take (i := 52) (oi := _) (v := .bool true) rfl (by kernel_rfl) (by kernel_rfl) (by kernel_rfl) (fun _ _ _ h => h) (Or.inl ⟨by rfl, ?_⟩) hHeld ?_
  · intro W hSw
    go_simp
  try simp only [Act.put, ps]
  refine wpAnyH_take (i := 53) (oi := _) (v := .slice a7 0 c7) rfl (by kernel_rfl) (by kernel_rfl) (by kernel_rfl) (fun _ _ _ h => h) (Or.inl ⟨by rfl, ?_⟩) hHeld ?_
  · intro W hSw
    go_simp
  try simp only [Act.put, ps]
  refine wpAnyH_take (i := 54) (oi := _) (v := .int .i64 0) rfl (by kernel_rfl) (by kernel_rfl) (by kernel_rfl) (fun _ _ _ h => h) (Or.inl ⟨by rfl, ?_⟩) hHeld ?_
  · intro W hSw
    go_simp
  try simp only [Act.put, ps]
  refine wpAnyH_take (i := 55) (oi := _) (v := .bool true) rfl (by kernel_rfl) (by kernel_rfl) (by kernel_rfl) (fun _ _ _ h => h) (Or.inl ⟨by rfl, ?_⟩) hHeld ?_
  · intro W hSw
    go_simp
  try simp only [Act.put, ps]
  refine wpAnyH_take (i := 56) (oi := _) (v := .bool true) rfl (by kernel_rfl) (by kernel_rfl) (by kernel_rfl) (fun _ _ _ h => h) (Or.inl ⟨by rfl, ?_⟩) hHeld ?_
  · intro W hSw
    go_simp
  try simp only [Act.put, ps]
  refine wpAnyH_take (i := 57) (oi := _) (v := .bool true) rfl (by kernel_rfl) (by kernel_rfl) (by kernel_rfl) (fun _ _ _ h => h) (Or.inl ⟨by rfl, ?_⟩) hHeld ?_
  · intro W hSw
    go_simp
  try simp only [Act.put, ps]
  have hbe := buildC_end
  generalize hre : recCells (plainV endC) = RE at hbe
  refine wpAnyH_take (i := 58) (oi := _) (v := .agg RE) rfl (by kernel_rfl) (by kernel_rfl) (by kernel_rfl) (fun _ _ _ h => h) (Or.inl ⟨by rfl, ?_⟩) hHeld ?_
  · intro W hSw
    go_simp
    rw [← hre]
    kernel_rfl
  try simp only [Act.put, ps]
  refine wpAnyH_ready (rs := [59]) (by kernel_rfl) (by simp) ?_
  refine AllReadyH.cons (o := _) rfl (fun K hK => ?_) AllReadyH.nil
  refine step_slices_by (by rfl) 29 1 [(0, .tmp 98)] rfl [(0, .agg RE)] rfl _ (by rw [← hre]; exact recs_slice1 _ _) ?_
  obtain ⟨x4, hx4⟩ : ∃ z, z = x3.alloc (.cells ([plainV endC].flatMap fun r => (recCells r).toList).toArray 49) := ⟨_, rfl⟩
  have b4 : Below x3.heap.size x3 x4 := by rw [hx4]; exact new_alloc _ _
  have HX4 : Aside (Below w5.heap.size w5 x4) := st_new w5 _ _ HX3.out b4
  have HE4 : Aside (RecsAt x4 (.slice (some ⟨x3.heap.size, 0, none⟩) 1 1) [endC]) := recs_whole (rvs := [plainV endC]) (ds := [endC]) rfl (by rw [hx4]; exact heap_new _ _) (fun j hj => by
    obtain rfl : j = 0 := by simpa using hj
    exact plain_at x4 rfl rfl rfl)
  rw [← hx4]
  refine hK.out _ x4 HX4.out (fun hHeld => ?_)
  clear hK K hx4 b4
  try simp only [Act.put, ps]
  refine wpAnyH_ready (rs := [60]) (by kernel_rfl) (by simp) ?_
  refine AllReadyH.cons (o := _) rfl (fun K hK => ?_) AllReadyH.nil
  go_simp
  refine (mwrong_any opf0 _ _ _ (end_in HE4.out) (HT.out.on (st_new w _ _ HB5.out HX4.out)) 22 0 fail_end).mono ?_
  rintro e x5 ⟨rfl, hx5⟩
  have HX5 : Aside (Below w5.heap.size w5 x5) := st_new w5 _ _ HX4.out hx5
  clear hx5
  try go_simp
  refine hK.out _ x5 HX5.out (fun hHeld => ?_)
  clear hK K
  try simp only [Act.put, ps]
  refine wpAnyH_take (i := 61) (oi := _) (v := .bool true) rfl (by kernel_rfl) (by kernel_rfl) (by kernel_rfl) (fun _ _ _ h => h) (Or.inl ⟨by rfl, ?_⟩) hHeld ?_
  · intro W hSw
    go_simp
  try simp only [Act.put, ps]
  refine wpAnyH_take (i := 62) (oi := _) (v := .bool true) rfl (by kernel_rfl) (by kernel_rfl) (by kernel_rfl) (fun _ _ _ h => h) (Or.inl ⟨by rfl, ?_⟩) hHeld ?_
  · intro W hSw
    go_simp
  try simp only [Act.put, ps]
  refine wpAnyH_done (by kernel_rfl) ?_ _
  clear hHeld
  apply_assumption
  go_wp2_with fail
  go_ret
  exact ⟨rfl, st_new w _ _ HB5.out HX5.out⟩
end Go.Proofs.YtfnekbfcndkjeaaGreatDoor
namespace Go.Proofs.YtfnekbfcndkjeaaGreatDoor
open Go.RowKit Go.Maps
structure Mo (F : Nat → Prop) (n : Nat) (w : World) (p : Nat) (st : MSt) : Prop where
  at_ : ∃ S, ModAt S n w p st ∧ (∀ k, S k → k < w.heap.size) ∧ ∀ k, F k → ¬ S k
  hand : HandleM st
  small : ∀ k, F k → k < w.heap.size
structure ArgR (F : Nat → Prop) (w : World) (R : Array Value) (d : RecD) : Prop where
  rec_ : ∃ rv, R = recCells rv ∧ ∀ W, Keeps F w W → RecAt W rv d
  ok : d.ok
  hand : d.kind = 1 → d.scheme ≠ 0
structure Kn (F : Nat → Prop) (wz : World) (n : Nat) (w : World) (p : Nat) (st : MSt) : Prop where
  mo : Mo F n w p st
  keep : Keeps F wz w
theorem Kn.take {F : Nat → Prop} {wz : World} {n : Nat} {w : World} {p : Nat} {st : MSt} (h : Kn F wz n w p st) (hn : n < 1000000000) {R : Array Value} {d : RecD} (hr : ArgR F wz R d) {c : Int} {st' : MSt} (he : takeM opf0 st d = (c, st')) :
    Calls Tryz.prog 17 #[.pointer (some ⟨p, 0, none⟩), .agg R] w fun e w' => e = .returned (.int .i64 c) ∧ Kn F wz (n + 1) w' p st' := by
  obtain ⟨⟨⟨S, hm, hs, hf⟩, hd, hz⟩, hk⟩ := h
  obtain ⟨⟨rv, rfl, hra⟩, hok, hh⟩ := hr
  refine (mtake_any opf0 hm hs hn rv d (fun W hW => hra W (hk.trans (hW.mono fun k _ h => hf k h))) hok (revOk_handle opf0 hd)).mono ?_
  rintro e w' ⟨rfl, S', hm', hk', hs', hz'⟩
  rw [he] at hm' ⊢
  have hha : HandleM st' := by have := handle_take (opf := opf0) hd hh; rw [he] at this; exact this
  exact ⟨rfl, ⟨⟨S', hm', hz', fun k hF hS => (hs' k hS).elim (hf k hF) (fun h => by have := hz k hF; omega)⟩, hha, fun k h => Nat.lt_of_lt_of_le (hz k h) hk'.size⟩, hk.trans (hk'.mono fun k _ h => hf k h)⟩
theorem Kn.drawn {F : Nat → Prop} {wz : World} {n : Nat} {w : World} {p : Nat} {st : MSt} (h : Kn F wz n w p st) (m : Nat) : Kn F wz n (w.drewN m) p st := by
  obtain ⟨⟨⟨S, hm, hs, hf⟩, hd, hz⟩, hk⟩ := h
  have hb := new_drewN w m
  exact ⟨⟨⟨S, hm.new hb, fun k h => Nat.lt_of_lt_of_le (hs k h) hb.size, hf⟩, hd, fun k h => Nat.lt_of_lt_of_le (hz k h) hb.size⟩, hk.trans (keeps_of_new hb _)⟩
theorem Kn.state {F : Nat → Prop} {wz : World} {n : Nat} {w : World} {p : Nat} {st : MSt} (h : Kn F wz n w p st) (lot : Int) (hl : -9223372036854775808 ≤ lot ∧ lot ≤ 9223372036854775807) (x : Int) (hx : x = if 0 ≤ lot ∧ lot < st.states.length then st.states.getD lot.toNat 0 else -1) :
    Calls Tryz.prog 28 #[.pointer (some ⟨p, 0, none⟩), .int .i64 lot] w fun e w' => e = .returned (.int .i64 x) ∧ Kn F wz n w' p st := by
  obtain ⟨S, hm, _⟩ := h.mo.at_
  refine (state_any hm lot hl x hx).mono ?_
  rintro e w' ⟨rfl, m, rfl⟩
  exact ⟨rfl, h.drawn m⟩
theorem Kn.ended {F : Nat → Prop} {wz : World} {n : Nat} {w : World} {p : Nat} {st : MSt} (h : Kn F wz n w p st) (b : Bool) (hb : st.ended = b) :
    Calls Tryz.prog 24 #[.pointer (some ⟨p, 0, none⟩)] w fun e w' => e = .returned (.bool b) ∧ Kn F wz n w' p st := by
  obtain ⟨S, hm, _⟩ := h.mo.at_
  refine (ended_any hm).mono ?_
  rintro e w' ⟨rfl, m, rfl⟩
  exact ⟨by rw [hb], h.drawn m⟩
theorem Kn.made {w w' : World} (h : w' = w.alloc (.cells (modCells {}) 93)) : Kn (· < w.heap.size) w' 0 w' w.heap.size {} := by
  have hs : w'.heap.size = w.heap.size + 1 := by rw [h]; simp
  exact ⟨⟨⟨_, new_modAt h, fun k hk => by rw [hk, hs]; exact Nat.lt_succ_self _, fun k hF hS => by rw [hS] at hF; exact Nat.lt_irrefl _ hF⟩, .inl rfl, fun k hk => by rw [hs]; exact Nat.lt_succ_of_lt hk⟩, Keeps.refl _ _⟩
theorem Kn.more {F : Nat → Prop} {wz : World} {n : Nat} {w w' : World} {p : Nat} {st : MSt} (h : Kn F wz n w p st) (hk : Keeps (fun k => k < w.heap.size) w w') : Kn (fun k => F k ∨ (w.heap.size ≤ k ∧ k < w'.heap.size)) w' n w' p st := by
  obtain ⟨⟨⟨S, hm, hs, hf⟩, hd, hz⟩, _⟩ := h
  exact ⟨⟨⟨S, hm.keeps hk hs, fun k h => Nat.lt_of_lt_of_le (hs k h) hk.size, fun k hF hS => hF.elim (fun h => hf k h hS) (fun h => by have := hs k hS; omega)⟩, hd, fun k h => h.elim (fun h => Nat.lt_of_lt_of_le (hz k h) hk.size) (fun h => h.2)⟩, Keeps.refl _ _⟩
theorem chap_range {B0 : Nat} {w : World} {g A B : Nat} {o : OutT} (h : ChapAt B0 w g A B o) (i : Nat) (hi : i < 6) : w.rangeAt g (i * 49) (recCells ((chapV A B o).getD i {})).toList := by
  intro j u hu
  have hj : j < 49 := by
    have := (List.getElem?_eq_some_iff.1 hu).1
    rw [Array.length_toList, recCells_size] at this
    exact this
  have := flat49 (chapV A B o) i j hj
  rw [if_pos (show i < (chapV A B o).length from by simpa [chapV] using hi)] at this
  rw [cell_whole h.row]
  simpa using this.trans hu
theorem scn_arg {F : Nat → Prop} {B0 : Nat} {w : World} {g A B : Nat} {o : OutT} (h : ChapAt B0 w g A B o) (hF : F g ∧ F A ∧ F B) : ArgR F w (recCells (scnV A B)) scnC :=
  ⟨⟨_, rfl, fun W hW => (h.keeps hW hF.1 hF.2.1 hF.2.2).recV⟩, scnC_ok, fun _ => by decide⟩
theorem plain_arg (F : Nat → Prop) (w : World) {d : RecD} (h1 : d.barred = []) (h2 : d.lots = []) (h3 : d.owners = []) (hok : d.ok) (hk : d.kind ≠ 1) : ArgR F w (recCells (plainV d)) d :=
  ⟨⟨_, rfl, fun W _ => plain_at W h1 h2 h3⟩, hok, fun h => absurd h hk⟩
def barV (d : RecD) (b : Nat) : RecV := { plainV d with barred := .slice (some ⟨b, 0, none⟩) 1 1 }
def barD (d : RecD) (x : Int) : RecD := { d with barred := [x] }
theorem row_one {w : World} {b : Nat} {x : Int} (h : w.heap[b]? = some (.cells #[.int .i64 x] 3 (0, 0))) : RowI w (.slice (some ⟨b, 0, none⟩) 1 1) [x] :=
  ⟨_, 1, rfl, Nat.le_refl _, fun _ => ⟨b, 0, rfl, whole_lt h, fun j hj => by
    obtain rfl : j = 0 := by have : j < 1 := hj; omega
    exact cell_whole h 0⟩⟩
theorem bar_arg {F : Nat → Prop} {w : World} {b : Nat} {x : Int} (h : w.heap[b]? = some (.cells #[.int .i64 x] 3 (0, 0))) (hF : F b) {d : RecD} (h2 : d.lots = []) (h3 : d.owners = []) (hok : (barD d x).ok) (hk : d.kind ≠ 1) : ArgR F w (recCells (barV d b)) (barD d x) :=
  ⟨⟨_, rfl, fun W hW => ⟨_, _, _, rfl, row_one (whole_keeps h hW hF), by rw [show (barD d x).lots = [] from h2]; exact RowL.nil _, by rw [show (barD d x).owners = [] from h3]; exact RowI.nil _⟩⟩, hok, fun h => absurd h hk⟩
def twoV (A B : Nat) : RecV := { scnV A B with lots := .slice (some ⟨A, 0, none⟩) 2 2 }
def twoD : RecD := { scnC with lots := [(0, 1), (1, 2)] }
theorem two_arg {F : Nat → Prop} {w : World} {A B : Nat} (hA : w.heap[A]? = some (.cells #[.int .i64 0, .int .i64 1, .int .i64 1, .int .i64 2] 63 (0, 0))) (hB : w.heap[B]? = some (.cells #[.int .i64 0, .int .i64 2] 3 (0, 0))) (hF : F A ∧ F B) : ArgR F w (recCells (twoV A B)) twoD := by
  refine ⟨⟨_, rfl, fun W hW => ⟨_, _, _, rfl, RowI.nil _, ⟨_, 2, rfl, Nat.le_refl _, fun _ => ⟨A, 0, rfl, whole_lt (whole_keeps hA hW hF.1), fun j hj => ?_⟩⟩, ⟨_, 2, rfl, Nat.le_refl _, fun _ => ⟨B, 0, rfl, whole_lt (whole_keeps hB hW hF.2), fun j hj => ?_⟩⟩⟩⟩, ?_, fun _ => by decide⟩
  · have c := cell_whole (whole_keeps hA hW hF.1)
    match j, hj with
    | 0, _ => exact ⟨c 0, c 1⟩
    | 1, _ => exact ⟨c 2, c 3⟩
    | _ + 2, h => exact absurd h (by simp [twoD])
  · rw [Nat.zero_add, cell_whole (whole_keeps hB hW hF.2)]
    match j, hj with
    | 0, _ | 1, _ => rfl
    | _ + 2, h => exact absurd h (by simp [twoD, scnC])
  · exact ⟨List.length_replicate, rep_bs, by decide, by decide, by decide, by decide, by decide, by decide, by decide, by decide, by decide, by decide, by decide, by decide⟩
theorem box_put (u : World) (R C : Array Value) (t s : TypeId) (W : World) (hW : W = (u.alloc (.cells R t)).alloc (.cells C s)) : Keeps (fun k => k < u.heap.size) u W ∧ W.heap[u.heap.size]? = some (.cells R t (0, 0)) ∧
    W.heap[u.heap.size + 1]? = some (.cells C s (0, 0)) ∧ W.heap.size = u.heap.size + 1 + 1 := by
  subst hW
  have hs : (u.alloc (.cells R t)).heap.size = u.heap.size + 1 := by simp
  have h2 := heap_new (u.alloc (.cells R t)) (.cells C s)
  rw [hs] at h2
  exact ⟨((Keeps.refl (fun k => k < u.heap.size) u).alloc _).alloc _, whole_new (heap_new u _) (new_alloc _ _), h2, by simp⟩
theorem whole_range {w : World} {g : Nat} {R : Array Value} {t : TypeId} (h : w.heap[g]? = some (.cells R t (0, 0))) : w.rangeAt g 0 R.toList := fun j u hu => by
  rw [Nat.zero_add, cell_whole h]
  simpa using hu
theorem box_new (u : World) (R : Array Value) (t : TypeId) (W : World) (hW : W = u.alloc (.cells R t)) : Keeps (fun k => k < u.heap.size) u W ∧ W.heap[u.heap.size]? = some (.cells R t (0, 0)) ∧ W.heap.size = u.heap.size + 1 := by
  subst hW
  exact ⟨(Keeps.refl (fun k => k < u.heap.size) u).alloc _, heap_new u _, by simp⟩
theorem step_run_by {P : Program} {ops : Array Oper} {o : Oper} {a : Act} {K : Act → World → Prop} {Q : Exit → Act → World → Prop} {E' : Prop} {w w1 : World} (hgd : Region.wanted o (yielded ops a.tmps) = true) (v : Value) (hr : (execOp a.eval o).run P w = .ok (.value v) w1) (h : K (a.put o.dst v) w1) :
    if Region.wanted o (yielded ops a.tmps) = true then Oper.wp P o a w K Q else E' := by
  rw [if_pos hgd]
  unfold Oper.wp
  rw [hr, Oper.upon_value]
  exact h
theorem step_store_row {ops : Array Oper} {o : Oper} {a : Act} {w : World} {K : Act → World → Prop} {Q : Exit → Act → World → Prop} {E' : Prop} (hgd : o.guard = none) (ty : TypeId) (x y : Operand) (ho : o.op = .store ty x y)
    (g : Nat) (cells : Array Value) (hx : a.eval x = .pointer (some ⟨g, 0, none⟩)) (hy : a.eval y = .agg cells)
    (t : TypeId) (old : Array Value) (hg : w.heap[g]? = some (.cells old t (0, 0))) (hi : (Tryz.prog.info? ty).map (·.size) = some cells.size)
    (hold : old.size = cells.size) (h1 : cells.all (·.oneCell') = true)
    (h : K (a.put o.dst undef) (w.setRow g cells)) : if Region.wanted o (yielded ops a.tmps) = true then Oper.wp Tryz.prog o a w K Q else E' := by
  have hw : Region.wanted o (yielded ops a.tmps) = true := by simp [Region.wanted, hgd]
  rw [if_pos hw]
  exact wp_store_row ty x y ho g cells hx hy t old hg hi hold h1 h
theorem alloc_rec (ρ : Operand → Value) (o : Oper) (ho : o.op = .alloc 49) (w : World) {Z : Array Value} (hZ : Z = recCells {}) : (execOp ρ o).run Tryz.prog w = .ok (.value (.pointer (some ⟨w.heap.size, 0, none⟩))) (w.alloc (.cells Z 49)) := by
  subst hZ
  unfold execOp
  simp only [ho]
  kernel_rfl
structure Two (w : World) (R : Array Value) (t : TypeId) (a b : Nat) (W : World) : Prop where
  keep : Keeps (fun k => k < w.heap.size) w W
  ina : W.heap[a]? = some (.cells R t (0, 0))
  inb : W.heap[b]? = some (.cells R t (0, 0))
  ne : a ≠ b
  a0 : w.heap.size ≤ a
  b0 : w.heap.size ≤ b
structure TwoS (w W : World) (a b : Option (Nat × Array Value)) (t : TypeId) : Prop where
  keep : Keeps (fun k => k < w.heap.size) w W
  ina : ∀ m c, a = some (m, c) → W.heap[m]? = some (.cells c t (0, 0)) ∧ w.heap.size ≤ m
  inb : ∀ m c, b = some (m, c) → W.heap[m]? = some (.cells c t (0, 0)) ∧ w.heap.size ≤ m
  ne : ∀ m c m' c', a = some (m, c) → b = some (m', c') → m ≠ m'
theorem TwoS.start (w : World) (t : TypeId) : TwoS w w.drew none none t := by
  refine ⟨(Keeps.refl _ _).drew, ?_, ?_, ?_⟩
  · intro _ _ h; cases h
  · intro _ _ h; cases h
  · intro _ _ _ _ h; cases h
theorem TwoS.newA {w W : World} {b : Option (Nat × Array Value)} {t : TypeId} (h : TwoS w W none b t) (Z : Array Value) {W' : World} {M : Nat} (hW : W' = W.alloc (.cells Z t)) (hM : M = W.heap.size) : TwoS w W' (some (M, Z)) b t := by
  have hb : Below W.heap.size W W' := by rw [hW]; exact new_alloc _ _
  refine ⟨h.keep.trans (keeps_of_new hb _), fun m c e => ?_, fun m c e => ⟨whole_new (h.inb m c e).1 hb, (h.inb m c e).2⟩, fun m c m' c' e e' => ?_⟩
  · injection e with e; injection e with e1 e2
    subst e1; subst e2
    exact ⟨by rw [hW, hM]; exact heap_new _ _, by rw [hM]; exact h.keep.size⟩
  · injection e with e; injection e with e1 e2
    rw [← e1, hM]
    exact Ne.symm (Nat.ne_of_lt (whole_lt (h.inb m' c' e').1))
theorem TwoS.newB {w W : World} {a : Option (Nat × Array Value)} {t : TypeId} (h : TwoS w W a none t) (Z : Array Value) {W' : World} {M : Nat} (hW : W' = W.alloc (.cells Z t)) (hM : M = W.heap.size) : TwoS w W' a (some (M, Z)) t := by
  have hb : Below W.heap.size W W' := by rw [hW]; exact new_alloc _ _
  refine ⟨h.keep.trans (keeps_of_new hb _), fun m c e => ⟨whole_new (h.ina m c e).1 hb, (h.ina m c e).2⟩, fun m c e => ?_, fun m c m' c' e e' => ?_⟩
  · injection e with e; injection e with e1 e2
    subst e1; subst e2
    exact ⟨by rw [hW, hM]; exact heap_new _ _, by rw [hM]; exact h.keep.size⟩
  · injection e' with e'; injection e' with e1 e2
    rw [← e1, hM]
    exact Nat.ne_of_lt (whole_lt (h.ina m c e).1)
theorem TwoS.putA {w W : World} {m : Nat} {c : Array Value} {b : Option (Nat × Array Value)} {t : TypeId} (h : TwoS w W (some (m, c)) b t) (c' : Array Value) {W' : World} (hW : W' = W.setRow m c') : TwoS w W' (some (m, c')) b t := by
  obtain ⟨h1, h2⟩ := h.ina m c rfl
  have hk : Keeps (· ≠ m) W W' := by rw [hW]; exact keeps_setRow W m c' (fun h => h rfl)
  refine ⟨h.keep.trans (hk.mono fun k _ hk => by omega), fun m' c2 e => ?_, fun m' c2 e => ⟨whole_keeps (h.inb m' c2 e).1 hk (h.ne m c m' c2 rfl e).symm, (h.inb m' c2 e).2⟩, fun m1 c1 m' c2 e e' => ?_⟩
  · injection e with e; injection e with e1 e2
    subst e1; subst e2
    exact ⟨by rw [hW]; exact setRow_heap W m c c' t _ h1, h2⟩
  · injection e with e; injection e with e1 e2
    subst e1
    exact h.ne m c m' c2 rfl e'
theorem TwoS.putB {w W : World} {m : Nat} {c : Array Value} {a : Option (Nat × Array Value)} {t : TypeId} (h : TwoS w W a (some (m, c)) t) (c' : Array Value) {W' : World} (hW : W' = W.setRow m c') : TwoS w W' a (some (m, c')) t := by
  obtain ⟨h1, h2⟩ := h.inb m c rfl
  have hk : Keeps (· ≠ m) W W' := by rw [hW]; exact keeps_setRow W m c' (fun h => h rfl)
  refine ⟨h.keep.trans (hk.mono fun k _ hk => by omega), fun m' c2 e => ⟨whole_keeps (h.ina m' c2 e).1 hk (h.ne m' c2 m c e rfl), (h.ina m' c2 e).2⟩, fun m' c2 e => ?_, fun m1 c1 m' c2 e e' => ?_⟩
  · injection e with e; injection e with e1 e2
    subst e1; subst e2
    exact ⟨by rw [hW]; exact setRow_heap W m c c' t _ h1, h2⟩
  · injection e' with e'; injection e' with e1 e2
    subst e1
    exact h.ne m1 c1 m c e rfl
theorem TwoS.fin {w W : World} {a b : Nat} {R : Array Value} {t : TypeId} (h : TwoS w W (some (a, R)) (some (b, R)) t) : Two w R t a b W :=
  ⟨h.keep, (h.ina a R rfl).1, (h.inb b R rfl).1, h.ne a R b R rfl rfl, (h.ina a R rfl).2, (h.inb b R rfl).2⟩
theorem mtake_nil {R : Array Value} (h : ∃ rv, R = recCells rv) (w : World) : Calls Tryz.prog 17 #[.pointer none, .agg R] w fun e w' => e = .returned (.int .i64 1) ∧ Below w.heap.size w w' := by
  obtain ⟨rv, rfl⟩ := h
  exact take_nil rv w
def end7 : RecD := { kind := 6, tick := 7 }
def end3 : RecD := { kind := 6, tick := 3 }
def opn1 : RecD := { kind := 2, lot := 1, tick := 1 }
noncomputable def s1 : MSt := (takeM opf0 {} scnC).2
noncomputable def s2 : MSt := (takeM opf0 s1 opnC).2
noncomputable def s3 : MSt := (takeM opf0 s2 comC1).2
noncomputable def s4 : MSt := (takeM opf0 s3 revC).2
noncomputable def s5 : MSt := (takeM opf0 s4 (clsC (2, 1, 50))).2
noncomputable def s6 : MSt := (takeM opf0 s5 end7).2
noncomputable def k1 : MSt := (takeM opf0 {} twoD).2
noncomputable def k2 : MSt := (takeM opf0 k1 (barD opn1 0)).2
noncomputable def k3 : MSt := (takeM opf0 k2 end3).2
theorem fail_ref : failM opf0 {} (chapD (4, 1, 50)) 0 = none := by kernel_rfl
theorem owners_ref : (playM opf0 {} (chapD (4, 1, 50))).owners = [0, 2] := by kernel_rfl
theorem outs_ref : (playM opf0 {} (chapD (4, 1, 50))).outs = [(4, 1, 50)] := by kernel_rfl
theorem tk0 : takeM opf0 {} opnC = (22, {}) := by kernel_rfl
theorem tk1 : takeM opf0 {} scnC = (0, s1) := by kernel_rfl
theorem tk2 : takeM opf0 s1 scnC = (22, s1) := by kernel_rfl
theorem st10 : (0 : Int) = if 0 ≤ (0 : Int) ∧ (0 : Int) < s1.states.length then s1.states.getD (0 : Int).toNat 0 else -1 := by kernel_rfl
theorem st11 : (-1 : Int) = if 0 ≤ (1 : Int) ∧ (1 : Int) < s1.states.length then s1.states.getD (1 : Int).toNat 0 else -1 := by kernel_rfl
theorem tk3 : takeM opf0 s1 (barD opnC 2) = (22, s1) := by kernel_rfl
theorem tk4 : takeM opf0 s1 (barD opnC 3) = (22, s1) := by kernel_rfl
theorem tk5 : takeM opf0 s1 { opnC with carrier := 1 } = (15, s1) := by kernel_rfl
theorem tk6 : takeM opf0 s1 comC = (22, s1) := by kernel_rfl
theorem tk7 : takeM opf0 s1 opnC = (0, s2) := by kernel_rfl
theorem st20 : (1 : Int) = if 0 ≤ (0 : Int) ∧ (0 : Int) < s2.states.length then s2.states.getD (0 : Int).toNat 0 else -1 := by kernel_rfl
theorem tk8 : takeM opf0 s2 { comC with carrier := 2 } = (22, s2) := by kernel_rfl
theorem tk9 : takeM opf0 s2 { comC with tick := 6 } = (22, s2) := by kernel_rfl
theorem tk10 : takeM opf0 s2 comC1 = (0, s3) := by kernel_rfl
theorem tk11 : takeM opf0 s3 comC = (22, s3) := by kernel_rfl
theorem tk12 : takeM opf0 s3 { revC with tick := 5 } = (22, s3) := by kernel_rfl
theorem tk13 : takeM opf0 s3 end7 = (22, s3) := by kernel_rfl
theorem tk14 : takeM opf0 s3 revC = (0, s4) := by kernel_rfl
theorem tk15 : takeM opf0 s4 (clsC (2, 1, 50)) = (0, s5) := by kernel_rfl
theorem st50 : (2 : Int) = if 0 ≤ (0 : Int) ∧ (0 : Int) < s5.states.length then s5.states.getD (0 : Int).toNat 0 else -1 := by kernel_rfl
theorem tk16 : takeM opf0 s5 end7 = (0, s6) := by kernel_rfl
theorem en6 : s6.ended = true := by kernel_rfl
theorem tk17 : takeM opf0 s6 end7 = (22, s6) := by kernel_rfl
theorem tk18 : takeM opf0 {} twoD = (0, k1) := by kernel_rfl
theorem tk19 : takeM opf0 k1 opn1 = (22, k1) := by kernel_rfl
theorem tk20 : takeM opf0 k1 (barD opn1 0) = (0, k2) := by kernel_rfl
theorem st70 : (5 : Int) = if 0 ≤ (0 : Int) ∧ (0 : Int) < k2.states.length then k2.states.getD (0 : Int).toNat 0 else -1 := by kernel_rfl
theorem st71 : (1 : Int) = if 0 ≤ (1 : Int) ∧ (1 : Int) < k2.states.length then k2.states.getD (1 : Int).toNat 0 else -1 := by kernel_rfl
theorem tk21 : takeM opf0 k2 end3 = (0, k3) := by kernel_rfl
theorem st81 : (5 : Int) = if 0 ≤ (1 : Int) ∧ (1 : Int) < k3.states.length then k3.states.getD (1 : Int).toNat 0 else -1 := by kernel_rfl
end Go.Proofs.YtfnekbfcndkjeaaGreatDoor
