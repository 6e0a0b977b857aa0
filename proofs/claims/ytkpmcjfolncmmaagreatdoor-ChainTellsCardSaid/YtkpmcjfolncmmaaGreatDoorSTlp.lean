/- consignlaw30.ChainTells answers true: a log takes just the records that may be, each once, whatever their fields; its text, its last sum and its length are as the document says. Of any row of drafts, any two numbers and any record, in any memory in which sha's tables and errors' own variable hold what the program's text lays in them. The card: the row with the three variables tied to the program's text. -/
import Derived.Test.YtkpmcjfolncmmaaGreatDoorSTlsA
import Derived.ProofKit
import Derived.OpenShut
import Derived.ShutString
import Derived.ChangeOld
import Derived.Deep.Slices
import Derived.Test.YtkpmcjfolncmmaaGreatDoorSTls1
import Derived.Test.YtkpmcjfolncmmaaGreatDoorSTab2
import Derived.Test.YtkpmcjfolncmmaaGreatDoorTie
import Derived.Test.YtkpmcjfolncmmaaGreatDoorCards
import Derived.SevenTiedAt
import Derived.ChangeMaps5
set_option linter.all false
namespace Go.Proofs.YtkpmcjfolncmmaaGreatDoor
open Go.RowKit Go.Deep Go.ChangeShapes Go.WideShapes
theorem RowIM.any {w : World} {v : Value} {xs : List Int} (h : RowIM (· < w.heap.size) 0 w v xs) (B : Nat) : RowIM (· < w.heap.size) B w v xs := by
  obtain ⟨a, cap, e, hc, h⟩ := h
  exact ⟨a, cap, e, hc, fun h0 => by obtain ⟨lb, lo, ea, hl, _, hj⟩ := h h0; exact ⟨lb, lo, ea, hl, .inl hl, hj⟩⟩
theorem RowLM.any {w : World} {v : Value} {xs : List (Int × Int)} (h : RowLM (· < w.heap.size) 0 w v xs) (B : Nat) : RowLM (· < w.heap.size) B w v xs := by
  obtain ⟨a, cap, e, hc, h⟩ := h
  exact ⟨a, cap, e, hc, fun h0 => by obtain ⟨lb, lo, ea, hl, _, hj⟩ := h h0; exact ⟨lb, lo, ea, hl, .inl hl, hj⟩⟩
theorem RowIM.room {O : Nat → Prop} {B : Nat} {w : World} {a : Option Addr} {n c : Nat} {xs : List Int} (h : RowIM O B w (.slice a n c) xs) : n ≤ c := by
  obtain ⟨a', c', e, hc, _⟩ := h
  obtain ⟨_, rfl, rfl⟩ := Value.slice.inj e
  exact hc
theorem RowLM.room {O : Nat → Prop} {B : Nat} {w : World} {a : Option Addr} {n c : Nat} {xs : List (Int × Int)} (h : RowLM O B w (.slice a n c) xs) : n ≤ c := by
  obtain ⟨a', c', e, hc, _⟩ := h
  obtain ⟨_, rfl, rfl⟩ := Value.slice.inj e
  exact hc
theorem Tryz.cells2Int : Tryz.prog.cellsOf 55 = 2 := by kernel_rfl
section
variable {H : Type} {enc : TypeId × Value → H} {W : World} {base : Nat} {spare : Nat → Bool} {held : Bool}
set_option maxRecDepth 100000 in
theorem open_ints2 {r : Reach} {b0 : Nat} {v : Value} {fuel : Nat} {x : DataW H × List MemPlace} (hval : Value.okWide Tryz.prog W r b0 55 v) (h : DataW.trod enc Tryz.prog W base spare held fuel 55 v.cells.toList = some x) :
    ∃ z0 z1 : Int, v = .agg #[.int .i64 z0, .int .i64 z1] ∧ (-9223372036854775808 ≤ z0 ∧ z0 ≤ 9223372036854775807) ∧ (-9223372036854775808 ≤ z1 ∧ z1 ≤ 9223372036854775807) := by
  obtain ⟨⟨cs⟩, rfl⟩ := okWide_array Tryz.underlying55 hval
  obtain ⟨ys, m1, _, _, hlen, hys, hy⟩ := DataW.trod_array Tryz.underlying55 h
  rw [Tryz.cells2Int] at hlen
  have y0 := hy 0 (by omega)
  have y1 := hy 1 (by omega)
  rw [Tryz.cellsInt, List.getElem?_eq_getElem (by omega)] at y0 y1
  obtain ⟨n0, a0, s0⟩ := open_int y0
  obtain ⟨n1, a1, s1⟩ := open_int y1
  simp only [Value.cells] at hlen a0 a1
  match cs, hlen with
  | [v0, v1], _ =>
    simp at a0 a1
    subst a0 a1
    exact ⟨n0, n1, rfl, s0, s1⟩
end
end Go.Proofs.YtkpmcjfolncmmaaGreatDoor
namespace Go.Proofs.YtkpmcjfolncmmaaGreatDoor.chainTells
open Go.ChangeShapes Go.WideShapes Go.ChangeAt Go.WideMaps Go.WideElems Go.ChangeMaps Go.RowKit Go.Proofs.YtkpmcjfolncmmaaGreatDoor
theorem own : ownKnob Tryz.prog.godebug = none := by kernel_rfl
theorem laidOut : laidOutB Tryz.prog = true := by kernel_rfl
set_option maxRecDepth 100000 in
theorem lifted (os : Os) (started : os.Started) (H : Type) (enc : TypeId × Value → H) :
    ReturnsInHanded {} Tryz.checked os 5 .any (fun w args => (Rows.chainTellsSpec.pre enc Tryz.prog Tryz.f5 [] false w args ∧ laidMetH Tryz.prog laidAll w) ∧ sizedMet enc Tryz.prog Tryz.f5 (OpenSpec.ofChange Rows.chainTellsSpec) false w args)
      (Rows.chainTellsSpec.post enc Tryz.prog Tryz.f5 false true false false) := by
  refine returnsInHanded_of_change_and (C := Tryz.checked) (X := fun w _ => laidMetH Tryz.prog laidAll w) (fun _ _ _ hh h => h.of_heap hh) own started (by kernel_rfl) Tryz.func5
    (ChangeSpec.witness_shaped (enc := enc) (C := Tryz.checked) (os := os) (X := fun w _ => laidMetH Tryz.prog laidAll w) false (World.doorLaid Tryz.prog 400 os) #[.slice none 0 0, .agg #[.int .i64 0, .int .i64 0], .agg (recCells {})] 8 rfl (World.shaped_of_RefB (by kernel_rfl) (by kernel_rfl)) (by kernel_rfl) (by kernel_rfl) (by kernel_rfl) (door_met os _)) ?_
  intro W base args ds gs before hval0 hW _ _ hL _
  have hval : ∀ (j : Nat) t v, Tryz.f5.params[j]? = some t → args[j]? = some v → Value.okWide Tryz.prog W .any base t v := hval0
  have hW' := hW
  obtain ⟨p, q, hA0, hV, rfl, hfz, hnd⟩ := hW
  have hA : DataW.TrodAll enc Tryz.prog W 0 (fun _ => true) true Tryz.f5.params.toList args.toList ds p := hA0
  rw [Tryz.params5] at hA hval
  obtain ⟨rfl, rfl⟩ := trodVars_none hV
  obtain ⟨kk, hT⟩ := tabs_are hL
  obtain ⟨v0, vs0, d0, ds0, p0, q0, hargs, rfl, rfl, h0, r0⟩ := trodAll_cons hA
  obtain ⟨v1, vs1, d1, ds1, p1, q1, rfl, rfl, rfl, h1, r1⟩ := trodAll_cons r0
  obtain ⟨v2, vs2, d2, ds2, p2, q2, rfl, rfl, rfl, h2, r2⟩ := trodAll_cons r1
  obtain ⟨rfl, rfl, rfl⟩ := trodAll_nil r2
  obtain rfl : args = #[v0, v1, v2] := by cases args; simp_all
  obtain ⟨a0, len0, cap0, rfl⟩ := okWide_slice Tryz.underlying47 (hval 0 _ v0 rfl rfl)
  obtain ⟨cs2, rfl, _⟩ := okWide_struct Tryz.underlying38 (hval 2 _ v2 rfl rfl)
  have k0 := h0
  have k1 := h1
  have k2 := h2
  have lt0 : ∀ x ∈ p0, x.block < W.heap.size := by obtain ⟨m, hm⟩ := k0; exact DataW.trod_lt m _ _ _ hm
  have lt1 : ∀ x ∈ p1, x.block < W.heap.size := by obtain ⟨m, hm⟩ := k1; exact DataW.trod_lt m _ _ _ hm
  have lt2 : ∀ x ∈ p2, x.block < W.heap.size := by obtain ⟨m, hm⟩ := k2; exact DataW.trod_lt m _ _ _ hm
  obtain ⟨fuel0, hf0⟩ := h0
  obtain ⟨fuel1, hf1⟩ := h1
  obtain ⟨fuel2, hf2⟩ := h2
  obtain ⟨hD0, hlc0, hcm0⟩ := open_drafts hf0
  obtain ⟨z0, z1, rfl, hz0, hz1⟩ := open_ints2 (hval 1 _ v1 rfl rfl) hf1
  obtain ⟨d, ba, la, oa, bn, bc, ln, lc, on, oc, hcd, hbl, hll, hol, hbc, hlc, hoc, hb, hl, ho, hok⟩ := open_record hf2 0
  obtain rfl : cs2 = recCells (d.toV (.slice ba bn bc) (.slice la ln lc) (.slice oa on oc)) := Array.toList_inj.1 hcd
  clear hA0 hval0
  refine (ctells_any (.slice a0 len0 cap0) len0 (by unfold maxLen at hcm0; omega) z0 z1 hz0 hz1 d ba la oa bn bc ln lc on oc hbl hll hol hb.room hl.room ho.room hbc hlc hoc kk W hb.any hl.any ho.any hok hT hD0).mono fun e W' ⟨he, bel⟩ => ?_
  subst he
  exact ⟨_, rfl, _, _, _, [], _, [], hW', trodAll_mk1 (shut_bool Tryz.underlying4 _), (trodAll_cons_mk (Below.trod laidOut (by kernel_rfl) (of_decide_eq_true (by kernel_rfl)) k0 bel lt0) (trodAll_cons_mk (Below.trod laidOut (by kernel_rfl) (of_decide_eq_true (by kernel_rfl)) k1 bel lt1) (trodAll_cons_mk (Below.trod laidOut (by kernel_rfl) (of_decide_eq_true (by kernel_rfl)) k2 bel lt2) trodAll_mk0))), rfl, bel.frame _, fun h => by cases h⟩
theorem over : Rows.chainTellsRow.holds Tryz.pinned (OpenSpec.ofChange Rows.chainTellsSpec) :=
  OpenClaim.holds_of_wide 5 Tryz.f5 rfl rfl rfl rfl rfl rfl rfl ⟨rfl, rfl, rfl, rfl, rfl⟩ rfl rfl rfl rfl rfl (by kernel_rfl) Tryz.func5 (by kernel_rfl)
    (of_decide_eq_true (by kernel_rfl)) (by unfold Func.isWrapper; first | (rw [if_pos (by decide +kernel)]; kernel_rfl) | (rw [if_neg (by decide +kernel)]; exact ⟨rfl, rfl⟩))
    (fun os started H enc _ => lifted os started H enc)
theorem proved : Rows.ChainTellsCardSaid :=
  Claim7.holds_tied_plain_at .later [] [.handle, .data, .data] true (true, "c37a0be53985c291e1ae0365713eaf8187f1c085348c28b0b3c66f6c0fbaff0d") true
    over (fun _ h => by cases h) (by kernel_rfl) (fun _ h => by cases h) chainTells_row_tie rfl ⟨rfl, rfl⟩ (by kernel_rfl) rfl
    (fun f fn hf hfn => by
      obtain rfl : f = 5 := Option.some.inj ((show Tryz.prog.funcNamed "consign/consignlaw30.ChainTells" = some 5 by kernel_rfl).symm.trans hf) |>.symm
      obtain rfl : fn = Tryz.f5 := (Option.some.inj (Tryz.func5.symm.trans hfn)).symm
      exact ⟨by kernel_rfl, fun j t ht => by
        rw [Tryz.params5] at ht
        have hm : t ∈ [47, 55, 38] := by simpa using Array.mem_of_getElem? ht
        have hall : ([47, 55, 38].all fun u => !Tryz.prog.wantsStandIn u) = true := by kernel_rfl
        exact (show Tryz.prog.wantsStandIn t = false by simpa using List.all_eq_true.1 hall t hm)⟩)
    (by kernel_rfl)
#print axioms proved
end Go.Proofs.YtkpmcjfolncmmaaGreatDoor.chainTells
