/- chain's parts, walked: a scene. Printed by wip/gen/parts.py. -/
import Derived.Test.YtkpmcjfolncmmaaDoorMRec2
import Derived.Deep.RegionHeld3
import Derived.Deep.RegionWith
set_option linter.all false
namespace Go.Proofs.YtkpmcjfolncmmaaDoor
open Go.RowKit

theorem csmall_ok (b g : Nat) (t : ByteArray) (hts : t.size ≤ 9223372036854775807) (p q v : Int) (hp : 0 ≤ p ∧ p ≤ t.size) (hle : 1 ≤ t.size - p) (hq : q = p + 1) (hv : v = getV t p 1) (w : World) (h : ROpen b g t p false w) :
    Calls Tryd.prog 41 #[.agg #[.pointer (some ⟨b, 0, none⟩)]] w fun e w' => e = .returned (.int .i64 v) ∧ Keeps (· ≠ b) w w' ∧ ROpen b g t q false w' := by
  refine (csmall_any b g t hts p hp w h).mono ?_
  intro e w1 hr
  rw [CNumPost, if_pos hle] at hr
  rw [hq, hv]
  exact hr
theorem csmall_no (b g : Nat) (t : ByteArray) (hts : t.size ≤ 9223372036854775807) (p : Int) (hp : 0 ≤ p ∧ p ≤ t.size) (hle : ¬ 1 ≤ t.size - p) (w : World) (h : ROpen b g t p false w) :
    Calls Tryd.prog 41 #[.agg #[.pointer (some ⟨b, 0, none⟩)]] w fun e w' => e = .panicked gaveUp ∧ Keeps (· ≠ b) w w' := by
  refine (csmall_any b g t hts p hp w h).mono ?_
  intro e w1 hr
  rw [CNumPost, if_neg hle] at hr
  exact hr

theorem cell_kept {b : Nat} {w w' : World} {R j : Nat} {v : Value} (hk : Keeps (· ≠ b) w w') (hK : R ≠ b) (h : w.cell? ⟨R, j, none⟩ = some v) : w'.cell? ⟨R, j, none⟩ = some v := cell_keeps h hk hK

theorem cell_past {L R : Nat} (h : R ≠ L) {W : World} {i j : Nat} {v : Value} : (W.setCell ⟨L, j, none⟩ v).cell? ⟨R, i, none⟩ = W.cell? ⟨R, i, none⟩ := World.cell?_setCell_other _ _ _ _ (by simp [h])

def sceneP (t : ByteArray) : Int := 5 + 1 + 5 * (cntR t 5 : Int)
def sceneOk (t : ByteArray) : Prop := 5 ≤ t.size ∧ lotsOk t 5 ∧ intsOk t (sceneP t)
instance (t : ByteArray) : Decidable (sceneOk t) := by unfold sceneOk; infer_instance
def sceneR (t : ByteArray) : RecD := { kind := 1, carriers := getV t 1 1, commit := getV t 2 1, reveal := getV t 3 1, scheme := getV t 4 1, lots := lotsTo t 5 (cntR t 5), owners := intsTo t (sceneP t) (cntR t (sceneP t)) }
def sceneQ (t : ByteArray) : Int := sceneP t + 1 + cntR t (sceneP t)

set_option maxHeartbeats 4000000 in
set_option maxRecDepth 100000 in
theorem parts_scene_ok (b g : Nat) (t : ByteArray) (hts : t.size ≤ 9223372036854775807) (h1 : 1 ≤ t.size) (hs4 : 5 ≤ t.size) (w : World) (h : ROpen b g t 1 false w) :
    Calls Tryd.prog 43 #[.agg #[.pointer (some ⟨b, 0, none⟩)], .int .i64 1] w (GotPost (sceneOk t) (sceneR t) (sceneQ t) b g t w) := by
  have H := aside h
  have hbl := h.bound.1
  have hgl := h.bound.2
  have HTS := aside hts
  clear h hts
  go_enter Tryd.func43, Tryd.ntmps43
  go_wp2_with fail
  rw [show (#[.int .i64 1, .int .i64 0, .int .i64 0, .int .i64 0, .int .i64 0, .slice none 0 0, .int .u8 0, .int .u8 0, .int .u8 0, .int .u8 0, .int .u8 0, .int .u8 0, .int .u8 0, .int .u8 0, .int .u8 0, .int .u8 0, .int .u8 0, .int .u8 0, .int .u8 0, .int .u8 0, .int .u8 0, .int .u8 0, .int .u8 0, .int .u8 0, .int .u8 0, .int .u8 0, .int .u8 0, .int .u8 0, .int .u8 0, .int .u8 0, .int .u8 0, .int .u8 0, .int .u8 0, .int .u8 0, .int .u8 0, .int .u8 0, .int .u8 0, .int .u8 0, .int .u64 0, .int .u64 0, .int .i64 0, .int .i64 0, .int .u64 0, .int .i64 0, .int .i64 0, .int .i64 0, .int .i64 0, .slice none 0 0, .slice none 0 0] : Array Value) = recCells { kind := 1 } from rfl]
  obtain ⟨R, hR⟩ : ∃ x, x = w.heap.size := ⟨_, rfl⟩
  obtain ⟨L, hL⟩ : ∃ x, x = w.heap.size + 1 := ⟨_, rfl⟩
  obtain ⟨w0, hw0⟩ : ∃ z, z = (w.alloc (.cells #[.pointer (some ⟨b, 0, none⟩)] 101)).alloc (.cells (recCells { kind := 1 }) 57) := ⟨_, rfl⟩
  have HN0 : Aside (Below w.heap.size w w0) := by rw [hw0]; exact new_trans (new_alloc _ _) (new_alloc _ _)
  have HR0 : RecIn w0 L { kind := 1 } := by rw [hw0, hL]; have := RecIn.box (w.alloc (.cells #[.pointer (some ⟨b, 0, none⟩)] 101)) { kind := 1 }; simpa using this
  have HR0 := aside HR0
  have HB0 : Aside (w0.cell? ⟨R, 0, none⟩ = some (.pointer (some ⟨b, 0, none⟩))) := by
    rw [hw0, hR]; exact ((new_alloc _ _).cell (p := ⟨w.heap.size, 0, none⟩) (by simp)).trans (cell_new _ _ _ 0)
  have hLb : L ≠ b := by omega
  have hRb : R ≠ b := by omega
  have hLg : L ≠ g := by omega
  have hLR : L ≠ R := by omega
  have hRL : R ≠ L := by omega
  have hLw : w.heap.size ≤ L := by omega
  have HK0 : Aside (Keeps (· ≠ b) w w0) := keeps_of_new HN0.out _
  have HO0 : Aside (ROpen b g t 1 false w0) := H.out.on HN0.out
  rw [← hw0, ← hL, ← hR]
  clear hw0 hR hL
  obtain ⟨x1, hx1⟩ : ∃ x, x = getV t 1 1 := ⟨_, rfl⟩
  obtain ⟨x2, hx2⟩ : ∃ x, x = getV t 2 1 := ⟨_, rfl⟩
  obtain ⟨x3, hx3⟩ : ∃ x, x = getV t 3 1 := ⟨_, rfl⟩
  obtain ⟨x4, hx4⟩ : ∃ x, x = getV t 4 1 := ⟨_, rfl⟩
  have HX1 := aside hx1
  have HX2 := aside hx2
  have HX3 := aside hx3
  have HX4 := aside hx4
  clear hx1 hx2 hx3 hx4
  have c0 := HB0.out
  go_region_held3 (fun W => W.cell? ⟨R, 0, none⟩ = some (.pointer (some ⟨b, 0, none⟩))) (first | exact c0 | exact c1 | exact c2 | exact c3 | exact c4 | ((repeat rw [cell_past hRL]); exact c4)) (first
      | (go_at_call 41
         refine (csmall_ok b g t HTS.out 1 2 x1 ?_ ?_ rfl HX1.out _ ?_).mono ?_
         · omega
         · omega
         · first | exact HO0.out | exact HO0.out.drew
         rintro e u1 ⟨rfl, k1, O1⟩
         have c1 := cell_kept k1 hRb c0)
      | (go_at_call 41
         refine (csmall_ok b g t HTS.out 2 3 x2 ?_ ?_ rfl HX2.out _ ?_).mono ?_
         · omega
         · omega
         · first | exact O1 | exact O1.drew
         rintro e u2 ⟨rfl, k2, O2⟩
         have c2 := cell_kept k2 hRb c1)
      | (go_at_call 41
         refine (csmall_ok b g t HTS.out 3 4 x3 ?_ ?_ rfl HX3.out _ ?_).mono ?_
         · omega
         · omega
         · first | exact O2 | exact O2.drew
         rintro e u3 ⟨rfl, k3, O3⟩
         have c3 := cell_kept k3 hRb c2)
      | (go_at_call 41
         refine (csmall_ok b g t HTS.out 4 5 x4 ?_ ?_ rfl HX4.out _ ?_).mono ?_
         · omega
         · omega
         · first | exact O3 | exact O3.drew
         rintro e u4 ⟨rfl, k4, O4⟩
         have c4 := cell_kept k4 hRb c3
         have R4 : RecIn u4 L { kind := 1 } := (((HR0.out.drew.keeps k1 hLb).keeps k2 hLb).keeps k3 hLb).keeps k4 hLb
         have d43 := R4.carriers
         have d44 := R4.commit
         have d45 := R4.reveal
         have d46 := R4.scheme
         have f43 := R4.free 43
         have f44 := R4.free 44
         have f45 := R4.free 45
         have f46 := R4.free 46))
  have HKR := aside (keeps_set (keeps_set (keeps_set (keeps_set ((((HK0.out.drew.trans k1).trans k2).trans k3).trans k4) hLw 43 (.int .i64 x1)) hLw 44 (.int .i64 x2)) hLw 45 (.int .i64 x3)) hLw 46 (.int .i64 x4))
  obtain ⟨r4, hr4⟩ : ∃ r : RecV, r = { kind := 1, carriers := x1, commit := x2, reveal := x3, scheme := x4 } := ⟨_, rfl⟩
  have HV4 := aside hr4
  have HRR := (((R4.setCarriers x1).setCommit x2).setReveal x3).setScheme x4
  have HOR := aside ((((O4.other hLb hLg 43 (.int .i64 x1)).other hLb hLg 44 (.int .i64 x2)).other hLb hLg 45 (.int .i64 x3)).other hLb hLg 46 (.int .i64 x4))
  obtain ⟨w4, hw4⟩ : ∃ z, z = (((u4.setCell ⟨L, 43, none⟩ (.int .i64 x1)).setCell ⟨L, 44, none⟩ (.int .i64 x2)).setCell ⟨L, 45, none⟩ (.int .i64 x3)).setCell ⟨L, 46, none⟩ (.int .i64 x4) := ⟨_, rfl⟩
  have HK4 : Aside (Keeps (· ≠ b) w w4) := by rw [hw4]; exact HKR
  have HO4 : Aside (ROpen b g t 5 false w4) := by rw [hw4]; exact HOR
  have HR4 : Aside (RecIn w4 L r4) := by rw [hw4, hr4]; exact HRR
  have HB4 : Aside (w4.cell? ⟨R, 0, none⟩ = some (.pointer (some ⟨b, 0, none⟩))) := by rw [hw4]; exact (by (repeat rw [cell_past hRL]); exact c4)
  rw [← hw4]
  clear hw4 hr4 HKR HRR HOR R4 k1 k2 k3 k4 O1 O2 O3 O4 c0 c1 c2 c3 c4 d43 d44 d45 d46 f43 f44 f45 f46
  have cb := HB4.out
  go_wp2_with fail
  clear cb
  refine (lots_any R b g t HTS.out 5 (by omega) w4 HO4.out HB4.out hRb).mono ?_
  intro e u5 hr
  by_cases hle5 : lotsOk t 5
  case neg =>
    rw [LotsPost, if_neg hle5] at hr
    obtain ⟨rfl, hk⟩ := hr
    have HE : Aside (GotPost (sceneOk t) (sceneR t) (sceneQ t) b g t w (.panicked gaveUp) u5) := by
      rw [Aside, GotPost, if_neg (fun h => by unfold sceneOk at h; exact hle5 h.2.1)]
      exact ⟨rfl, HK4.out.trans hk⟩
    clear hk hle5
    go_wp2_with fail
    exact ⟨rfl, HE.out⟩
  rw [LotsPost, if_pos hle5] at hr
  obtain ⟨_, rfl, how, hk, ho⟩ := hr
  obtain ⟨a5, cap5, rfl, _, _⟩ := ownsRow_form how
  have HLOK := aside hle5
  have hsp : 0 ≤ sceneP t ∧ sceneP t ≤ t.size := by have := hle5.2; unfold sceneP; omega
  have HSP := aside hsp
  have HLU4 : Aside (L < w4.heap.size) := HR4.out.lt
  have HBU : Aside (b < w4.heap.size) := HO4.out.bound.1
  have HK := aside (HK4.out.trans hk)
  have HO : Aside (ROpen b g t (sceneP t) false u5) := ho
  have HR := aside (HR4.out.keeps hk hLb)
  have HB := aside (cell_keeps HB4.out hk hRb)
  have cb := HB.out
  have cf := HR.out.lots
  have ff := HR.out.free 47
  obtain ⟨r5, hr5⟩ : ∃ r : RecV, r = { r4 with lots := (Value.slice a5 (cntR t 5) cap5) } := ⟨_, rfl⟩
  have HV5 := aside hr5
  have HOWL := aside how
  clear how hk ho hle5 hsp HO4 HK4 HR4 HB4
  go_wp2_with fail
  clear cb cf ff
  obtain ⟨w5, hw⟩ : ∃ z, z = u5.setCell ⟨L, 47, none⟩ (Value.slice a5 (cntR t 5) cap5) := ⟨_, rfl⟩
  have HK5 : Aside (Keeps (· ≠ b) w w5) := by rw [hw]; exact keeps_set HK.out hLw _ _
  have HO5 : Aside (ROpen b g t (sceneP t) false w5) := by rw [hw]; exact HO.out.other hLb hLg _ _
  have HR5 : Aside (RecIn w5 L r5) := by rw [hw, hr5]; exact HR.out.setLots _
  have HB5 : Aside (w5.cell? ⟨R, 0, none⟩ = some (.pointer (some ⟨b, 0, none⟩))) := by rw [hw]; exact (World.cell?_setCell_other _ _ _ _ (by simp [hRL])).trans HB.out
  have HOW5 : Aside (w5.ownsRow w4.heap.size 59 2 (Value.slice a5 (cntR t 5) cap5) (cntR t 5) (lotCells (lotsTo t 5 (cntR t 5)))) := by
    rw [hw]; exact ownsRow_keeps HOWL.out (Keeps.setCell (K := (· ≠ L)) (Keeps.refl _ _) (p := ⟨L, 47, none⟩) (.inr (fun h => h rfl)) _) (fun k hk => by have := HLU4.out; omega)
  rw [← hw]
  clear hw HK HO HR HB hr5 HOWL
  refine (ints_any b g t HTS.out (sceneP t) HSP.out w5 HO5.out).mono ?_
  intro e u6 hr
  by_cases hle6 : intsOk t (sceneP t)
  case neg =>
    rw [IntsPost, if_neg hle6] at hr
    obtain ⟨rfl, hk⟩ := hr
    have HE : Aside (GotPost (sceneOk t) (sceneR t) (sceneQ t) b g t w (.panicked gaveUp) u6) := by
      rw [Aside, GotPost, if_neg (fun h => by unfold sceneOk at h; exact hle6 h.2.2)]
      exact ⟨rfl, HK5.out.trans hk⟩
    clear hk hle6
    go_wp2_with fail
    exact ⟨rfl, HE.out⟩
  rw [IntsPost, if_pos hle6] at hr
  obtain ⟨_, rfl, how, hk, ho⟩ := hr
  obtain ⟨a6, cap6, rfl, _, _⟩ := ownsRow_form how
  have HOWN := aside how
  have HIN6 := aside hle6
  have HLU : Aside (L < w5.heap.size) := HR5.out.lt
  have HK := aside (HK5.out.trans hk)
  have HO := aside ho
  have HR := aside (HR5.out.keeps hk hLb)
  have cf := HR.out.owners
  have ff := HR.out.free 48
  obtain ⟨r6, hr6⟩ : ∃ r : RecV, r = { r5 with owners := (Value.slice a6 (cntR t (sceneP t)) cap6) } := ⟨_, rfl⟩
  have HV6 := aside hr6
  have HK6 : Aside (Keeps (· ≠ b) w (u6.setCell ⟨L, 48, none⟩ (Value.slice a6 (cntR t (sceneP t)) cap6))) := keeps_set HK.out hLw _ _
  have HRX : RecIn (u6.setCell ⟨L, 48, none⟩ (Value.slice a6 (cntR t (sceneP t)) cap6)) L r6 := by rw [hr6]; exact HR.out.setOwners _
  have HR6 := aside HRX
  have HO6 := aside (HO.out.other hLb hLg 48 (Value.slice a6 (cntR t (sceneP t)) cap6))
  have HI6 : Aside (RowIF w.heap.size (u6.setCell ⟨L, 48, none⟩ (Value.slice a6 (cntR t (sceneP t)) cap6)) (Value.slice a6 (cntR t (sceneP t)) cap6) (intsTo t (sceneP t) (cntR t (sceneP t)))) :=
    rowIF_owned (by rw [intsTo, List.length_map, List.length_range]) (ownsRow_keeps HOWN.out (Keeps.setCell (K := (· ≠ L)) (Keeps.refl _ _) (p := ⟨L, 48, none⟩) (.inr (fun h => h rfl)) _) (fun k hk => by have := HLU.out; omega)) (by have := HLU.out; omega)
  have HL6 : Aside (RowLF w.heap.size (u6.setCell ⟨L, 48, none⟩ (Value.slice a6 (cntR t (sceneP t)) cap6)) (Value.slice a5 (cntR t 5) cap5) (lotsTo t 5 (cntR t 5))) :=
    rowLF_owned (by rw [lotsTo, List.length_map, List.length_range]) (ownsRow_keeps (ownsRow_keeps HOW5.out hk (fun k hk => by have := HBU.out; omega)) (Keeps.setCell (K := (· ≠ L)) (Keeps.refl _ _) (p := ⟨L, 48, none⟩) (.inr (fun h => h rfl)) _) (fun k hk => by have := HLU4.out; omega)) (by have := HLU4.out; omega)
  clear hr6 HRX HK HO HR hle6 how hk ho
  have hone : (recCells r6).all (·.oneCell') = true := by
    refine recCells_one _ ?_ ?_ ?_ <;> (simp only [HV6.out, HV5.out, HV4.out]; rfl)
  have hi0 : (Tryd.prog.info? 57).map (·.size) = some (recCells r6).size := by rw [recCells_size]; kernel_rfl
  have hsame := HR6.out.setSame
  go_wp2_with (first
    | (refine wpList_load_row rfl _ _ rfl L rfl _ (recCells r6) (0, 0) _ HR6.out Tryd.underlying57 rfl hi0 ?_)
    | (refine wpList_store_row rfl _ _ _ rfl L (recCells r6) rfl rfl 57 _ HR6.out hi0 rfl hone ?_)
    | fail)
  rw [hsame]
  refine bodyPost_ret (results_cell_row rfl _ _ L 57 (recCells r6) (0, 0) _ rfl HR6.out Tryd.underlying57 rfl hi0) rfl ?_
  rw [GotPost, if_pos (show sceneOk t from ⟨hs4, HLOK.out, HIN6.out⟩)]
  exact ⟨_, rfl, ⟨_, _, _, by simp only [HV6.out, HV5.out, HV4.out, HX4.out, HX3.out, HX2.out, HX1.out]; simp only [sceneR, RecD.toV, rep_getD], RowIF.nil _ _, HL6.out, HI6.out⟩, HK6.out, HO6.out⟩

end Go.Proofs.YtkpmcjfolncmmaaDoor

/- chain's parts, walked: a scene that ends too early. Printed by wip/gen/parts.py. -/
namespace Go.Proofs.YtkpmcjfolncmmaaDoor
open Go.RowKit

set_option maxHeartbeats 4000000 in
set_option maxRecDepth 100000 in
theorem parts_scene_no0 (b g : Nat) (t : ByteArray) (hts : t.size ≤ 9223372036854775807) (hs4 : t.size = 1) (w : World) (h : ROpen b g t 1 false w) :
    Calls Tryd.prog 43 #[.agg #[.pointer (some ⟨b, 0, none⟩)], .int .i64 1] w (GotPost (sceneOk t) (sceneR t) (sceneQ t) b g t w) := by
  have HNO : Aside (∀ u, Keeps (· ≠ b) w u → GotPost (sceneOk t) (sceneR t) (sceneQ t) b g t w (.panicked gaveUp) u) := by
    intro u hk
    rw [GotPost, if_neg (fun h => by unfold sceneOk at h; have := h.1; omega)]
    exact ⟨rfl, hk⟩
  have H := aside h
  have hbl := h.bound.1
  have hgl := h.bound.2
  have HTS := aside hts
  have h1 : 1 ≤ t.size := by omega
  have h2 : t.size ≤ 1 := by omega
  clear h hts hs4
  go_enter Tryd.func43, Tryd.ntmps43
  go_wp2_with fail
  rw [show (#[.int .i64 1, .int .i64 0, .int .i64 0, .int .i64 0, .int .i64 0, .slice none 0 0, .int .u8 0, .int .u8 0, .int .u8 0, .int .u8 0, .int .u8 0, .int .u8 0, .int .u8 0, .int .u8 0, .int .u8 0, .int .u8 0, .int .u8 0, .int .u8 0, .int .u8 0, .int .u8 0, .int .u8 0, .int .u8 0, .int .u8 0, .int .u8 0, .int .u8 0, .int .u8 0, .int .u8 0, .int .u8 0, .int .u8 0, .int .u8 0, .int .u8 0, .int .u8 0, .int .u8 0, .int .u8 0, .int .u8 0, .int .u8 0, .int .u8 0, .int .u8 0, .int .u64 0, .int .u64 0, .int .i64 0, .int .i64 0, .int .u64 0, .int .i64 0, .int .i64 0, .int .i64 0, .int .i64 0, .slice none 0 0, .slice none 0 0] : Array Value) = recCells { kind := 1 } from rfl]
  obtain ⟨R, hR⟩ : ∃ x, x = w.heap.size := ⟨_, rfl⟩
  obtain ⟨L, hL⟩ : ∃ x, x = w.heap.size + 1 := ⟨_, rfl⟩
  obtain ⟨w0, hw0⟩ : ∃ z, z = (w.alloc (.cells #[.pointer (some ⟨b, 0, none⟩)] 101)).alloc (.cells (recCells { kind := 1 }) 57) := ⟨_, rfl⟩
  have HN0 : Aside (Below w.heap.size w w0) := by rw [hw0]; exact new_trans (new_alloc _ _) (new_alloc _ _)
  have HR0 : RecIn w0 L { kind := 1 } := by rw [hw0, hL]; have := RecIn.box (w.alloc (.cells #[.pointer (some ⟨b, 0, none⟩)] 101)) { kind := 1 }; simpa using this
  have HR0 := aside HR0
  have HB0 : Aside (w0.cell? ⟨R, 0, none⟩ = some (.pointer (some ⟨b, 0, none⟩))) := by
    rw [hw0, hR]; exact ((new_alloc _ _).cell (p := ⟨w.heap.size, 0, none⟩) (by simp)).trans (cell_new _ _ _ 0)
  have hLb : L ≠ b := by omega
  have hRb : R ≠ b := by omega
  have hLg : L ≠ g := by omega
  have hLR : L ≠ R := by omega
  have hRL : R ≠ L := by omega
  have hLw : w.heap.size ≤ L := by omega
  have HK0 : Aside (Keeps (· ≠ b) w w0) := keeps_of_new HN0.out _
  have HO0 : Aside (ROpen b g t 1 false w0) := H.out.on HN0.out
  rw [← hw0, ← hL, ← hR]
  clear hw0 hR hL
  refine wp_region_held_drew (S := fun W => W.cell? ⟨R, 0, none⟩ = some (.pointer (some ⟨b, 0, none⟩))) (by kernel_rfl) HB0.out (fun hHeld => ?_)
  refine wpAnyH_take (i := 0) (oi := { dst := some 10, op := Op.load 101 (Operand.tmp 2), type := 101, pos := "chain.go:161", after := #[], guard := none }) (v := .agg #[.pointer (some ⟨b, 0, none⟩)]) rfl (by kernel_rfl) (by kernel_rfl) (by kernel_rfl) (fun _ _ _ h => h) (Or.inl ⟨by rfl, ?_⟩) hHeld ?_
  · intro w hSw
    go_simp
  simp only [Act.put, List.setIfInBounds_toArray, List.set_cons_zero, List.set_cons_succ]
  refine wpAnyH_take (i := 2) (oi := { dst := some 12, op := Op.load 101 (Operand.tmp 2), type := 101, pos := "chain.go:161", after := #[], guard := none }) (v := .agg #[.pointer (some ⟨b, 0, none⟩)]) rfl (by kernel_rfl) (by kernel_rfl) (by kernel_rfl) (fun _ _ _ h => h) (Or.inl ⟨by rfl, ?_⟩) hHeld ?_
  · intro w hSw
    go_simp
  simp only [Act.put, List.setIfInBounds_toArray, List.set_cons_zero, List.set_cons_succ]
  refine wpAnyH_take (i := 4) (oi := { dst := some 14, op := Op.load 101 (Operand.tmp 2), type := 101, pos := "chain.go:161", after := #[], guard := none }) (v := .agg #[.pointer (some ⟨b, 0, none⟩)]) rfl (by kernel_rfl) (by kernel_rfl) (by kernel_rfl) (fun _ _ _ h => h) (Or.inl ⟨by rfl, ?_⟩) hHeld ?_
  · intro w hSw
    go_simp
  simp only [Act.put, List.setIfInBounds_toArray, List.set_cons_zero, List.set_cons_succ]
  refine wpAnyH_take (i := 6) (oi := { dst := some 16, op := Op.load 101 (Operand.tmp 2), type := 101, pos := "chain.go:161", after := #[], guard := none }) (v := .agg #[.pointer (some ⟨b, 0, none⟩)]) rfl (by kernel_rfl) (by kernel_rfl) (by kernel_rfl) (fun _ _ _ h => h) (Or.inl ⟨by rfl, ?_⟩) hHeld ?_
  · intro w hSw
    go_simp
  simp only [Act.put, List.setIfInBounds_toArray, List.set_cons_zero, List.set_cons_succ]
  refine wpAnyH_ready (rs := [1]) (by kernel_rfl) (by simp) ?_
  refine AllReadyH.cons (o := { dst := some 11, op := Op.call { callee := Callee.value (Operand.func 41), args := #[Operand.tmp 10], argTypes := #[101] }, type := 3, pos := "chain.go:161", after := #[{ on := 0, ground := Ground.data }], guard := none }) rfl (fun K hK => ?_) AllReadyH.nil
  go_simp
  refine (csmall_no b g t HTS.out 1 (by omega) (by omega) _ HO0.out.drew).mono ?_
  rintro e u1 ⟨rfl, k1⟩
  exact ⟨rfl, HNO.out _ (HK0.out.drew.trans k1)⟩

set_option maxHeartbeats 4000000 in
set_option maxRecDepth 100000 in
theorem parts_scene_no1 (b g : Nat) (t : ByteArray) (hts : t.size ≤ 9223372036854775807) (hs4 : t.size = 2) (w : World) (h : ROpen b g t 1 false w) :
    Calls Tryd.prog 43 #[.agg #[.pointer (some ⟨b, 0, none⟩)], .int .i64 1] w (GotPost (sceneOk t) (sceneR t) (sceneQ t) b g t w) := by
  have HNO : Aside (∀ u, Keeps (· ≠ b) w u → GotPost (sceneOk t) (sceneR t) (sceneQ t) b g t w (.panicked gaveUp) u) := by
    intro u hk
    rw [GotPost, if_neg (fun h => by unfold sceneOk at h; have := h.1; omega)]
    exact ⟨rfl, hk⟩
  have H := aside h
  have hbl := h.bound.1
  have hgl := h.bound.2
  have HTS := aside hts
  have h1 : 2 ≤ t.size := by omega
  have h2 : t.size ≤ 2 := by omega
  clear h hts hs4
  go_enter Tryd.func43, Tryd.ntmps43
  go_wp2_with fail
  rw [show (#[.int .i64 1, .int .i64 0, .int .i64 0, .int .i64 0, .int .i64 0, .slice none 0 0, .int .u8 0, .int .u8 0, .int .u8 0, .int .u8 0, .int .u8 0, .int .u8 0, .int .u8 0, .int .u8 0, .int .u8 0, .int .u8 0, .int .u8 0, .int .u8 0, .int .u8 0, .int .u8 0, .int .u8 0, .int .u8 0, .int .u8 0, .int .u8 0, .int .u8 0, .int .u8 0, .int .u8 0, .int .u8 0, .int .u8 0, .int .u8 0, .int .u8 0, .int .u8 0, .int .u8 0, .int .u8 0, .int .u8 0, .int .u8 0, .int .u8 0, .int .u8 0, .int .u64 0, .int .u64 0, .int .i64 0, .int .i64 0, .int .u64 0, .int .i64 0, .int .i64 0, .int .i64 0, .int .i64 0, .slice none 0 0, .slice none 0 0] : Array Value) = recCells { kind := 1 } from rfl]
  obtain ⟨R, hR⟩ : ∃ x, x = w.heap.size := ⟨_, rfl⟩
  obtain ⟨L, hL⟩ : ∃ x, x = w.heap.size + 1 := ⟨_, rfl⟩
  obtain ⟨w0, hw0⟩ : ∃ z, z = (w.alloc (.cells #[.pointer (some ⟨b, 0, none⟩)] 101)).alloc (.cells (recCells { kind := 1 }) 57) := ⟨_, rfl⟩
  have HN0 : Aside (Below w.heap.size w w0) := by rw [hw0]; exact new_trans (new_alloc _ _) (new_alloc _ _)
  have HR0 : RecIn w0 L { kind := 1 } := by rw [hw0, hL]; have := RecIn.box (w.alloc (.cells #[.pointer (some ⟨b, 0, none⟩)] 101)) { kind := 1 }; simpa using this
  have HR0 := aside HR0
  have HB0 : Aside (w0.cell? ⟨R, 0, none⟩ = some (.pointer (some ⟨b, 0, none⟩))) := by
    rw [hw0, hR]; exact ((new_alloc _ _).cell (p := ⟨w.heap.size, 0, none⟩) (by simp)).trans (cell_new _ _ _ 0)
  have hLb : L ≠ b := by omega
  have hRb : R ≠ b := by omega
  have hLg : L ≠ g := by omega
  have hLR : L ≠ R := by omega
  have hRL : R ≠ L := by omega
  have hLw : w.heap.size ≤ L := by omega
  have HK0 : Aside (Keeps (· ≠ b) w w0) := keeps_of_new HN0.out _
  have HO0 : Aside (ROpen b g t 1 false w0) := H.out.on HN0.out
  rw [← hw0, ← hL, ← hR]
  clear hw0 hR hL
  obtain ⟨x1, hx1⟩ : ∃ x, x = getV t 1 1 := ⟨_, rfl⟩
  have HX1 := aside hx1
  clear hx1
  refine wp_region_held_drew (S := fun W => W.cell? ⟨R, 0, none⟩ = some (.pointer (some ⟨b, 0, none⟩))) (by kernel_rfl) HB0.out (fun hHeld => ?_)
  refine wpAnyH_take (i := 0) (oi := { dst := some 10, op := Op.load 101 (Operand.tmp 2), type := 101, pos := "chain.go:161", after := #[], guard := none }) (v := .agg #[.pointer (some ⟨b, 0, none⟩)]) rfl (by kernel_rfl) (by kernel_rfl) (by kernel_rfl) (fun _ _ _ h => h) (Or.inl ⟨by rfl, ?_⟩) hHeld ?_
  · intro w hSw
    go_simp
  simp only [Act.put, List.setIfInBounds_toArray, List.set_cons_zero, List.set_cons_succ]
  refine wpAnyH_take (i := 2) (oi := { dst := some 12, op := Op.load 101 (Operand.tmp 2), type := 101, pos := "chain.go:161", after := #[], guard := none }) (v := .agg #[.pointer (some ⟨b, 0, none⟩)]) rfl (by kernel_rfl) (by kernel_rfl) (by kernel_rfl) (fun _ _ _ h => h) (Or.inl ⟨by rfl, ?_⟩) hHeld ?_
  · intro w hSw
    go_simp
  simp only [Act.put, List.setIfInBounds_toArray, List.set_cons_zero, List.set_cons_succ]
  refine wpAnyH_take (i := 4) (oi := { dst := some 14, op := Op.load 101 (Operand.tmp 2), type := 101, pos := "chain.go:161", after := #[], guard := none }) (v := .agg #[.pointer (some ⟨b, 0, none⟩)]) rfl (by kernel_rfl) (by kernel_rfl) (by kernel_rfl) (fun _ _ _ h => h) (Or.inl ⟨by rfl, ?_⟩) hHeld ?_
  · intro w hSw
    go_simp
  simp only [Act.put, List.setIfInBounds_toArray, List.set_cons_zero, List.set_cons_succ]
  refine wpAnyH_take (i := 6) (oi := { dst := some 16, op := Op.load 101 (Operand.tmp 2), type := 101, pos := "chain.go:161", after := #[], guard := none }) (v := .agg #[.pointer (some ⟨b, 0, none⟩)]) rfl (by kernel_rfl) (by kernel_rfl) (by kernel_rfl) (fun _ _ _ h => h) (Or.inl ⟨by rfl, ?_⟩) hHeld ?_
  · intro w hSw
    go_simp
  simp only [Act.put, List.setIfInBounds_toArray, List.set_cons_zero, List.set_cons_succ]
  refine wpAnyH_ready (rs := [1]) (by kernel_rfl) (by simp) ?_
  refine AllReadyH.cons (o := { dst := some 11, op := Op.call { callee := Callee.value (Operand.func 41), args := #[Operand.tmp 10], argTypes := #[101] }, type := 3, pos := "chain.go:161", after := #[{ on := 0, ground := Ground.data }], guard := none }) rfl (fun K hK => ?_) AllReadyH.nil
  go_simp
  refine (csmall_ok b g t HTS.out 1 2 x1 (by omega) (by omega) rfl HX1.out _ HO0.out.drew).mono ?_
  rintro e u1 ⟨rfl, k1, O1⟩
  refine hK.out _ _ (cell_kept k1 hRb hHeld) (fun hHeld => ?_)
  clear hK K
  refine wpAnyH_take (i := 8) (oi := _) (v := .pointer (some ⟨L, 43, none⟩)) rfl (by kernel_rfl) (by kernel_rfl) (by kernel_rfl) (fun _ _ _ h => h) (Or.inl ⟨by rfl, ?_⟩) hHeld ?_
  · intro w hSw
    go_simp
  simp only [Act.put, List.setIfInBounds_toArray, List.set_cons_zero, List.set_cons_succ]
  refine wpAnyH_ready (rs := [3]) (by kernel_rfl) (by simp) ?_
  refine AllReadyH.cons (o := { dst := some 13, op := Op.call { callee := Callee.value (Operand.func 41), args := #[Operand.tmp 12], argTypes := #[101] }, type := 3, pos := "chain.go:161", after := #[{ on := 2, ground := Ground.data }, { on := 1, ground := Ground.chain }], guard := none }) rfl (fun K hK => ?_) AllReadyH.nil
  go_simp
  refine (csmall_no b g t HTS.out 2 (by omega) (by omega) _ O1).mono ?_
  rintro e u2 ⟨rfl, k2⟩
  exact ⟨rfl, HNO.out _ ((HK0.out.drew.trans k1).trans k2)⟩

set_option maxHeartbeats 4000000 in
set_option maxRecDepth 100000 in
theorem parts_scene_no2 (b g : Nat) (t : ByteArray) (hts : t.size ≤ 9223372036854775807) (hs4 : t.size = 3) (w : World) (h : ROpen b g t 1 false w) :
    Calls Tryd.prog 43 #[.agg #[.pointer (some ⟨b, 0, none⟩)], .int .i64 1] w (GotPost (sceneOk t) (sceneR t) (sceneQ t) b g t w) := by
  have HNO : Aside (∀ u, Keeps (· ≠ b) w u → GotPost (sceneOk t) (sceneR t) (sceneQ t) b g t w (.panicked gaveUp) u) := by
    intro u hk
    rw [GotPost, if_neg (fun h => by unfold sceneOk at h; have := h.1; omega)]
    exact ⟨rfl, hk⟩
  have H := aside h
  have hbl := h.bound.1
  have hgl := h.bound.2
  have HTS := aside hts
  have h1 : 3 ≤ t.size := by omega
  have h2 : t.size ≤ 3 := by omega
  clear h hts hs4
  go_enter Tryd.func43, Tryd.ntmps43
  go_wp2_with fail
  rw [show (#[.int .i64 1, .int .i64 0, .int .i64 0, .int .i64 0, .int .i64 0, .slice none 0 0, .int .u8 0, .int .u8 0, .int .u8 0, .int .u8 0, .int .u8 0, .int .u8 0, .int .u8 0, .int .u8 0, .int .u8 0, .int .u8 0, .int .u8 0, .int .u8 0, .int .u8 0, .int .u8 0, .int .u8 0, .int .u8 0, .int .u8 0, .int .u8 0, .int .u8 0, .int .u8 0, .int .u8 0, .int .u8 0, .int .u8 0, .int .u8 0, .int .u8 0, .int .u8 0, .int .u8 0, .int .u8 0, .int .u8 0, .int .u8 0, .int .u8 0, .int .u8 0, .int .u64 0, .int .u64 0, .int .i64 0, .int .i64 0, .int .u64 0, .int .i64 0, .int .i64 0, .int .i64 0, .int .i64 0, .slice none 0 0, .slice none 0 0] : Array Value) = recCells { kind := 1 } from rfl]
  obtain ⟨R, hR⟩ : ∃ x, x = w.heap.size := ⟨_, rfl⟩
  obtain ⟨L, hL⟩ : ∃ x, x = w.heap.size + 1 := ⟨_, rfl⟩
  obtain ⟨w0, hw0⟩ : ∃ z, z = (w.alloc (.cells #[.pointer (some ⟨b, 0, none⟩)] 101)).alloc (.cells (recCells { kind := 1 }) 57) := ⟨_, rfl⟩
  have HN0 : Aside (Below w.heap.size w w0) := by rw [hw0]; exact new_trans (new_alloc _ _) (new_alloc _ _)
  have HR0 : RecIn w0 L { kind := 1 } := by rw [hw0, hL]; have := RecIn.box (w.alloc (.cells #[.pointer (some ⟨b, 0, none⟩)] 101)) { kind := 1 }; simpa using this
  have HR0 := aside HR0
  have HB0 : Aside (w0.cell? ⟨R, 0, none⟩ = some (.pointer (some ⟨b, 0, none⟩))) := by
    rw [hw0, hR]; exact ((new_alloc _ _).cell (p := ⟨w.heap.size, 0, none⟩) (by simp)).trans (cell_new _ _ _ 0)
  have hLb : L ≠ b := by omega
  have hRb : R ≠ b := by omega
  have hLg : L ≠ g := by omega
  have hLR : L ≠ R := by omega
  have hRL : R ≠ L := by omega
  have hLw : w.heap.size ≤ L := by omega
  have HK0 : Aside (Keeps (· ≠ b) w w0) := keeps_of_new HN0.out _
  have HO0 : Aside (ROpen b g t 1 false w0) := H.out.on HN0.out
  rw [← hw0, ← hL, ← hR]
  clear hw0 hR hL
  obtain ⟨x1, hx1⟩ : ∃ x, x = getV t 1 1 := ⟨_, rfl⟩
  have HX1 := aside hx1
  clear hx1
  obtain ⟨x2, hx2⟩ : ∃ x, x = getV t 2 1 := ⟨_, rfl⟩
  have HX2 := aside hx2
  clear hx2
  refine wp_region_held_drew (S := fun W => W.cell? ⟨R, 0, none⟩ = some (.pointer (some ⟨b, 0, none⟩))) (by kernel_rfl) HB0.out (fun hHeld => ?_)
  refine wpAnyH_take (i := 0) (oi := { dst := some 10, op := Op.load 101 (Operand.tmp 2), type := 101, pos := "chain.go:161", after := #[], guard := none }) (v := .agg #[.pointer (some ⟨b, 0, none⟩)]) rfl (by kernel_rfl) (by kernel_rfl) (by kernel_rfl) (fun _ _ _ h => h) (Or.inl ⟨by rfl, ?_⟩) hHeld ?_
  · intro w hSw
    go_simp
  simp only [Act.put, List.setIfInBounds_toArray, List.set_cons_zero, List.set_cons_succ]
  refine wpAnyH_take (i := 2) (oi := { dst := some 12, op := Op.load 101 (Operand.tmp 2), type := 101, pos := "chain.go:161", after := #[], guard := none }) (v := .agg #[.pointer (some ⟨b, 0, none⟩)]) rfl (by kernel_rfl) (by kernel_rfl) (by kernel_rfl) (fun _ _ _ h => h) (Or.inl ⟨by rfl, ?_⟩) hHeld ?_
  · intro w hSw
    go_simp
  simp only [Act.put, List.setIfInBounds_toArray, List.set_cons_zero, List.set_cons_succ]
  refine wpAnyH_take (i := 4) (oi := { dst := some 14, op := Op.load 101 (Operand.tmp 2), type := 101, pos := "chain.go:161", after := #[], guard := none }) (v := .agg #[.pointer (some ⟨b, 0, none⟩)]) rfl (by kernel_rfl) (by kernel_rfl) (by kernel_rfl) (fun _ _ _ h => h) (Or.inl ⟨by rfl, ?_⟩) hHeld ?_
  · intro w hSw
    go_simp
  simp only [Act.put, List.setIfInBounds_toArray, List.set_cons_zero, List.set_cons_succ]
  refine wpAnyH_take (i := 6) (oi := { dst := some 16, op := Op.load 101 (Operand.tmp 2), type := 101, pos := "chain.go:161", after := #[], guard := none }) (v := .agg #[.pointer (some ⟨b, 0, none⟩)]) rfl (by kernel_rfl) (by kernel_rfl) (by kernel_rfl) (fun _ _ _ h => h) (Or.inl ⟨by rfl, ?_⟩) hHeld ?_
  · intro w hSw
    go_simp
  simp only [Act.put, List.setIfInBounds_toArray, List.set_cons_zero, List.set_cons_succ]
  refine wpAnyH_ready (rs := [1]) (by kernel_rfl) (by simp) ?_
  refine AllReadyH.cons (o := { dst := some 11, op := Op.call { callee := Callee.value (Operand.func 41), args := #[Operand.tmp 10], argTypes := #[101] }, type := 3, pos := "chain.go:161", after := #[{ on := 0, ground := Ground.data }], guard := none }) rfl (fun K hK => ?_) AllReadyH.nil
  go_simp
  refine (csmall_ok b g t HTS.out 1 2 x1 (by omega) (by omega) rfl HX1.out _ HO0.out.drew).mono ?_
  rintro e u1 ⟨rfl, k1, O1⟩
  refine hK.out _ _ (cell_kept k1 hRb hHeld) (fun hHeld => ?_)
  clear hK K
  refine wpAnyH_take (i := 8) (oi := _) (v := .pointer (some ⟨L, 43, none⟩)) rfl (by kernel_rfl) (by kernel_rfl) (by kernel_rfl) (fun _ _ _ h => h) (Or.inl ⟨by rfl, ?_⟩) hHeld ?_
  · intro w hSw
    go_simp
  simp only [Act.put, List.setIfInBounds_toArray, List.set_cons_zero, List.set_cons_succ]
  refine wpAnyH_ready (rs := [3]) (by kernel_rfl) (by simp) ?_
  refine AllReadyH.cons (o := { dst := some 13, op := Op.call { callee := Callee.value (Operand.func 41), args := #[Operand.tmp 12], argTypes := #[101] }, type := 3, pos := "chain.go:161", after := #[{ on := 2, ground := Ground.data }, { on := 1, ground := Ground.chain }], guard := none }) rfl (fun K hK => ?_) AllReadyH.nil
  go_simp
  refine (csmall_ok b g t HTS.out 2 3 x2 (by omega) (by omega) rfl HX2.out _ O1).mono ?_
  rintro e u2 ⟨rfl, k2, O2⟩
  refine hK.out _ _ (cell_kept k2 hRb hHeld) (fun hHeld => ?_)
  clear hK K
  refine wpAnyH_ready (rs := [5]) (by kernel_rfl) (by simp) ?_
  refine AllReadyH.cons (o := { dst := some 15, op := Op.call { callee := Callee.value (Operand.func 41), args := #[Operand.tmp 14], argTypes := #[101] }, type := 3, pos := "chain.go:161", after := #[{ on := 4, ground := Ground.data }, { on := 3, ground := Ground.chain }], guard := none }) rfl (fun K hK => ?_) AllReadyH.nil
  go_simp
  refine (csmall_no b g t HTS.out 3 (by omega) (by omega) _ O2).mono ?_
  rintro e u3 ⟨rfl, k3⟩
  exact ⟨rfl, HNO.out _ (((HK0.out.drew.trans k1).trans k2).trans k3)⟩

set_option maxHeartbeats 4000000 in
set_option maxRecDepth 100000 in
theorem parts_scene_no3 (b g : Nat) (t : ByteArray) (hts : t.size ≤ 9223372036854775807) (hs4 : t.size = 4) (w : World) (h : ROpen b g t 1 false w) :
    Calls Tryd.prog 43 #[.agg #[.pointer (some ⟨b, 0, none⟩)], .int .i64 1] w (GotPost (sceneOk t) (sceneR t) (sceneQ t) b g t w) := by
  have HNO : Aside (∀ u, Keeps (· ≠ b) w u → GotPost (sceneOk t) (sceneR t) (sceneQ t) b g t w (.panicked gaveUp) u) := by
    intro u hk
    rw [GotPost, if_neg (fun h => by unfold sceneOk at h; have := h.1; omega)]
    exact ⟨rfl, hk⟩
  have H := aside h
  have hbl := h.bound.1
  have hgl := h.bound.2
  have HTS := aside hts
  have h1 : 4 ≤ t.size := by omega
  have h2 : t.size ≤ 4 := by omega
  clear h hts hs4
  go_enter Tryd.func43, Tryd.ntmps43
  go_wp2_with fail
  rw [show (#[.int .i64 1, .int .i64 0, .int .i64 0, .int .i64 0, .int .i64 0, .slice none 0 0, .int .u8 0, .int .u8 0, .int .u8 0, .int .u8 0, .int .u8 0, .int .u8 0, .int .u8 0, .int .u8 0, .int .u8 0, .int .u8 0, .int .u8 0, .int .u8 0, .int .u8 0, .int .u8 0, .int .u8 0, .int .u8 0, .int .u8 0, .int .u8 0, .int .u8 0, .int .u8 0, .int .u8 0, .int .u8 0, .int .u8 0, .int .u8 0, .int .u8 0, .int .u8 0, .int .u8 0, .int .u8 0, .int .u8 0, .int .u8 0, .int .u8 0, .int .u8 0, .int .u64 0, .int .u64 0, .int .i64 0, .int .i64 0, .int .u64 0, .int .i64 0, .int .i64 0, .int .i64 0, .int .i64 0, .slice none 0 0, .slice none 0 0] : Array Value) = recCells { kind := 1 } from rfl]
  obtain ⟨R, hR⟩ : ∃ x, x = w.heap.size := ⟨_, rfl⟩
  obtain ⟨L, hL⟩ : ∃ x, x = w.heap.size + 1 := ⟨_, rfl⟩
  obtain ⟨w0, hw0⟩ : ∃ z, z = (w.alloc (.cells #[.pointer (some ⟨b, 0, none⟩)] 101)).alloc (.cells (recCells { kind := 1 }) 57) := ⟨_, rfl⟩
  have HN0 : Aside (Below w.heap.size w w0) := by rw [hw0]; exact new_trans (new_alloc _ _) (new_alloc _ _)
  have HR0 : RecIn w0 L { kind := 1 } := by rw [hw0, hL]; have := RecIn.box (w.alloc (.cells #[.pointer (some ⟨b, 0, none⟩)] 101)) { kind := 1 }; simpa using this
  have HR0 := aside HR0
  have HB0 : Aside (w0.cell? ⟨R, 0, none⟩ = some (.pointer (some ⟨b, 0, none⟩))) := by
    rw [hw0, hR]; exact ((new_alloc _ _).cell (p := ⟨w.heap.size, 0, none⟩) (by simp)).trans (cell_new _ _ _ 0)
  have hLb : L ≠ b := by omega
  have hRb : R ≠ b := by omega
  have hLg : L ≠ g := by omega
  have hLR : L ≠ R := by omega
  have hRL : R ≠ L := by omega
  have hLw : w.heap.size ≤ L := by omega
  have HK0 : Aside (Keeps (· ≠ b) w w0) := keeps_of_new HN0.out _
  have HO0 : Aside (ROpen b g t 1 false w0) := H.out.on HN0.out
  rw [← hw0, ← hL, ← hR]
  clear hw0 hR hL
  obtain ⟨x1, hx1⟩ : ∃ x, x = getV t 1 1 := ⟨_, rfl⟩
  have HX1 := aside hx1
  clear hx1
  obtain ⟨x2, hx2⟩ : ∃ x, x = getV t 2 1 := ⟨_, rfl⟩
  have HX2 := aside hx2
  clear hx2
  obtain ⟨x3, hx3⟩ : ∃ x, x = getV t 3 1 := ⟨_, rfl⟩
  have HX3 := aside hx3
  clear hx3
  refine wp_region_held_drew (S := fun W => W.cell? ⟨R, 0, none⟩ = some (.pointer (some ⟨b, 0, none⟩))) (by kernel_rfl) HB0.out (fun hHeld => ?_)
  refine wpAnyH_take (i := 0) (oi := { dst := some 10, op := Op.load 101 (Operand.tmp 2), type := 101, pos := "chain.go:161", after := #[], guard := none }) (v := .agg #[.pointer (some ⟨b, 0, none⟩)]) rfl (by kernel_rfl) (by kernel_rfl) (by kernel_rfl) (fun _ _ _ h => h) (Or.inl ⟨by rfl, ?_⟩) hHeld ?_
  · intro w hSw
    go_simp
  simp only [Act.put, List.setIfInBounds_toArray, List.set_cons_zero, List.set_cons_succ]
  refine wpAnyH_take (i := 2) (oi := { dst := some 12, op := Op.load 101 (Operand.tmp 2), type := 101, pos := "chain.go:161", after := #[], guard := none }) (v := .agg #[.pointer (some ⟨b, 0, none⟩)]) rfl (by kernel_rfl) (by kernel_rfl) (by kernel_rfl) (fun _ _ _ h => h) (Or.inl ⟨by rfl, ?_⟩) hHeld ?_
  · intro w hSw
    go_simp
  simp only [Act.put, List.setIfInBounds_toArray, List.set_cons_zero, List.set_cons_succ]
  refine wpAnyH_take (i := 4) (oi := { dst := some 14, op := Op.load 101 (Operand.tmp 2), type := 101, pos := "chain.go:161", after := #[], guard := none }) (v := .agg #[.pointer (some ⟨b, 0, none⟩)]) rfl (by kernel_rfl) (by kernel_rfl) (by kernel_rfl) (fun _ _ _ h => h) (Or.inl ⟨by rfl, ?_⟩) hHeld ?_
  · intro w hSw
    go_simp
  simp only [Act.put, List.setIfInBounds_toArray, List.set_cons_zero, List.set_cons_succ]
  refine wpAnyH_take (i := 6) (oi := { dst := some 16, op := Op.load 101 (Operand.tmp 2), type := 101, pos := "chain.go:161", after := #[], guard := none }) (v := .agg #[.pointer (some ⟨b, 0, none⟩)]) rfl (by kernel_rfl) (by kernel_rfl) (by kernel_rfl) (fun _ _ _ h => h) (Or.inl ⟨by rfl, ?_⟩) hHeld ?_
  · intro w hSw
    go_simp
  simp only [Act.put, List.setIfInBounds_toArray, List.set_cons_zero, List.set_cons_succ]
  refine wpAnyH_ready (rs := [1]) (by kernel_rfl) (by simp) ?_
  refine AllReadyH.cons (o := { dst := some 11, op := Op.call { callee := Callee.value (Operand.func 41), args := #[Operand.tmp 10], argTypes := #[101] }, type := 3, pos := "chain.go:161", after := #[{ on := 0, ground := Ground.data }], guard := none }) rfl (fun K hK => ?_) AllReadyH.nil
  go_simp
  refine (csmall_ok b g t HTS.out 1 2 x1 (by omega) (by omega) rfl HX1.out _ HO0.out.drew).mono ?_
  rintro e u1 ⟨rfl, k1, O1⟩
  refine hK.out _ _ (cell_kept k1 hRb hHeld) (fun hHeld => ?_)
  clear hK K
  refine wpAnyH_take (i := 8) (oi := _) (v := .pointer (some ⟨L, 43, none⟩)) rfl (by kernel_rfl) (by kernel_rfl) (by kernel_rfl) (fun _ _ _ h => h) (Or.inl ⟨by rfl, ?_⟩) hHeld ?_
  · intro w hSw
    go_simp
  simp only [Act.put, List.setIfInBounds_toArray, List.set_cons_zero, List.set_cons_succ]
  refine wpAnyH_ready (rs := [3]) (by kernel_rfl) (by simp) ?_
  refine AllReadyH.cons (o := { dst := some 13, op := Op.call { callee := Callee.value (Operand.func 41), args := #[Operand.tmp 12], argTypes := #[101] }, type := 3, pos := "chain.go:161", after := #[{ on := 2, ground := Ground.data }, { on := 1, ground := Ground.chain }], guard := none }) rfl (fun K hK => ?_) AllReadyH.nil
  go_simp
  refine (csmall_ok b g t HTS.out 2 3 x2 (by omega) (by omega) rfl HX2.out _ O1).mono ?_
  rintro e u2 ⟨rfl, k2, O2⟩
  refine hK.out _ _ (cell_kept k2 hRb hHeld) (fun hHeld => ?_)
  clear hK K
  refine wpAnyH_ready (rs := [5]) (by kernel_rfl) (by simp) ?_
  refine AllReadyH.cons (o := { dst := some 15, op := Op.call { callee := Callee.value (Operand.func 41), args := #[Operand.tmp 14], argTypes := #[101] }, type := 3, pos := "chain.go:161", after := #[{ on := 4, ground := Ground.data }, { on := 3, ground := Ground.chain }], guard := none }) rfl (fun K hK => ?_) AllReadyH.nil
  go_simp
  refine (csmall_ok b g t HTS.out 3 4 x3 (by omega) (by omega) rfl HX3.out _ O2).mono ?_
  rintro e u3 ⟨rfl, k3, O3⟩
  refine hK.out _ _ (cell_kept k3 hRb hHeld) (fun hHeld => ?_)
  clear hK K
  refine wpAnyH_ready (rs := [7]) (by kernel_rfl) (by simp) ?_
  refine AllReadyH.cons (o := { dst := some 17, op := Op.call { callee := Callee.value (Operand.func 41), args := #[Operand.tmp 16], argTypes := #[101] }, type := 3, pos := "chain.go:161", after := #[{ on := 6, ground := Ground.data }, { on := 5, ground := Ground.chain }], guard := none }) rfl (fun K hK => ?_) AllReadyH.nil
  go_simp
  refine (csmall_no b g t HTS.out 4 (by omega) (by omega) _ O3).mono ?_
  rintro e u4 ⟨rfl, k4⟩
  exact ⟨rfl, HNO.out _ ((((HK0.out.drew.trans k1).trans k2).trans k3).trans k4)⟩

theorem parts_scene (b g : Nat) (t : ByteArray) (hts : t.size ≤ 9223372036854775807) (h1 : 1 ≤ t.size) (w : World) (h : ROpen b g t 1 false w) :
    Calls Tryd.prog 43 #[.agg #[.pointer (some ⟨b, 0, none⟩)], .int .i64 1] w (GotPost (sceneOk t) (sceneR t) (sceneQ t) b g t w) := by
  by_cases h5 : 5 ≤ t.size
  · exact parts_scene_ok b g t hts h1 h5 w h
  · have h4 : t.size = 1 ∨ t.size = 2 ∨ t.size = 3 ∨ t.size = 4 := by omega
    rcases h4 with h4 | h4 | h4 | h4
    · exact parts_scene_no0 b g t hts h4 w h
    · exact parts_scene_no1 b g t hts h4 w h
    · exact parts_scene_no2 b g t hts h4 w h
    · exact parts_scene_no3 b g t hts h4 w h

end Go.Proofs.YtkpmcjfolncmmaaDoor
