/- consignref24's ints and lots, walked. -/
import Derived.Test.YtkpmcjfolncmmaaGreatDoorSRec2
import Derived.Test.YtkpmcjfolncmmaaGreatDoorSMayA
set_option linter.all false
namespace Go.Proofs.YtkpmcjfolncmmaaGreatDoor
open Go.RowKit
theorem list_ext_getD {α : Type} (z : α) {xs ys : List α} (hl : xs.length = ys.length) (h : ∀ j, j < xs.length → xs.getD j z = ys.getD j z) : xs = ys := by
  apply List.ext_getElem hl
  intro i h1 h2
  have := h i h1
  rw [List.getD_eq_getElem?_getD, List.getD_eq_getElem?_getD, List.getElem?_eq_getElem h1, List.getElem?_eq_getElem h2] at this
  exact this
set_option maxHeartbeats 2000000 in
set_option maxRecDepth 100000 in
theorem ints_same (v1 v2 : Value) (xs ys : List Int) (hx : xs.length ≤ 1099511627776) (hy : ys.length ≤ 1099511627776) (w : World) (h1 : RowI w v1 xs) (h2 : RowI w v2 ys) :
    Calls Tryz.prog 36 #[v1, v2] w fun e w' => e = .returned (.bool (decide (xs = ys))) ∧ Below w.heap.size w w' := by
  have H1 := aside h1
  have H2 := aside h2
  obtain ⟨a1, c1, rfl, hc1, _⟩ := h1
  obtain ⟨a2, c2, rfl, hc2, _⟩ := h2
  obtain ⟨n, hn⟩ : ∃ n, n = xs.length := ⟨_, rfl⟩
  obtain ⟨m, hm⟩ : ∃ m, m = ys.length := ⟨_, rfl⟩
  rw [← hn] at hx hc1 ⊢
  rw [← hm] at hy hc2 ⊢
  have HN := aside hn
  have HM := aside hm
  clear hn hm
  go_enter Tryz.func36, Tryz.ntmps36
  by_cases hnm : n = m
  case neg =>
    have HR : Aside (decide (xs = ys) = false) := decide_eq_false (fun e => hnm (by rw [HN.out, HM.out, e]))
    have e1 : ((n : Int) != m) = true := by simp; omega
    clear hnm
    go_wp2_with fail
    go_ret
    exact ⟨by rw [HR.out]; rfl, Below.refl _ _⟩
  subst hnm
  go_wp2_with fail
  go_loopg [5] n (fun g v5 wr => ∃ k : Nat, k ≤ n ∧ v5 = .int .i64 k ∧ n - k ≤ g ∧ Aside (∀ j, j < k → xs.getD j 0 = ys.getD j 0) ∧ Aside (Below w.heap.size w wr))
  case atStart => exact ⟨0, by omega, rfl, by omega, fun j h => by omega, Below.refl _ _⟩
  case round =>
    obtain ⟨k, hk, rfl, hg, HA, HB⟩ := hrel
    by_cases hlt : k < n
    · have hki : (k : Int) < n := by omega
      have HME : Aside (∀ q, n - k ≤ q → n - (k + 1) < q) := fun q h => by omega
      obtain ⟨a', cap', e, _, hj0⟩ := H1.out
      obtain ⟨lb, lo, ea, hlb, hj⟩ := hj0 (by have := HN.out; omega)
      obtain ⟨ea2, _, ec2⟩ := Value.slice.inj e
      subst ec2
      rw [ea] at ea2
      subst ea2
      have c0 := (HB.out.cell (p := ⟨lb, lo + k, none⟩) hlb).trans (hj k (by rw [← HN.out]; exact hlt))
      obtain ⟨a'', cap'', e', _, hj0'⟩ := H2.out
      obtain ⟨lb', lo', ea', hlb', hj'⟩ := hj0' (by have := HM.out; omega)
      obtain ⟨ea2', _, ec2'⟩ := Value.slice.inj e'
      subst ec2'
      rw [ea'] at ea2'
      subst ea2'
      have c0' := (HB.out.cell (p := ⟨lb', lo' + k, none⟩) hlb').trans (hj' k (by rw [← HM.out]; exact hlt))
      obtain ⟨x, hxk⟩ : ∃ x, x = xs.getD k 0 := ⟨_, rfl⟩
      obtain ⟨y, hyk⟩ : ∃ y, y = ys.getD k 0 := ⟨_, rfl⟩
      rw [← hxk] at c0
      rw [← hyk] at c0'
      have HX := aside hxk
      have HY := aside hyk
      clear hj0 hj hj0' hj' hxk hyk e e' ea ea'
      by_cases hxy : x = y
      · have e1 : (x != y) = false := by simpa using hxy
        have HA2 : Aside (∀ j, j < k + 1 → xs.getD j 0 = ys.getD j 0) := by
          intro j hj
          by_cases ej : j = k
          · rw [ej, ← HX.out, ← HY.out, hxy]
          · exact HA.out j (by omega)
        clear hxy HA
        go_wp2_with fail
        go_quiet (fail)
        go_wp2_with fail
        go_roundg (n - (k + 1))
        case measure => exact HME.out _ hg
        case rel => exact ⟨k + 1, hlt, by go_num, Nat.le_refl _, HA2, HB.out.trans ((new_drewN _ _).mono HB.out.size)⟩
      · have e1 : (x != y) = true := by simpa using hxy
        have HR : Aside (decide (xs = ys) = false) := decide_eq_false (fun e => hxy (by rw [HX.out, HY.out, e]))
        clear hxy HA
        go_wp2_with fail
        go_quiet (fail)
        go_wp2_with fail
        go_ret
        exact ⟨by rw [HR.out]; rfl, HB.out.trans ((new_drewN _ _).mono HB.out.size)⟩
    · have hki : ¬ (k : Int) < n := by omega
      have hkn : k = n := by omega
      have HR : Aside (decide (xs = ys) = true) := decide_eq_true (list_ext_getD 0 (by rw [← HN.out, ← HM.out]) (fun j hj => HA.out j (by rw [hkn, HN.out]; exact hj)))
      clear hkn hlt HA hg
      go_wp2_with fail
      go_ret
      exact ⟨by rw [HR.out]; rfl, HB.out⟩
theorem Tryz.structLot : Tryz.prog.underlying 68 = some (.struct (Tryz.prog.fieldsOf 68)) := by kernel_rfl
theorem Tryz.heldLot : Tryz.prog.stoodInHeld 68 = false := by kernel_rfl
theorem neqLot (a b x y : Int) : ∀ (w : World), (binOp .neq 68 (.agg #[.int .i64 a, .int .i64 b]) (.agg #[.int .i64 x, .int .i64 y])).run Tryz.prog w = .ok (.bool (!(a == x && b == y))) w := by
  intro w
  have u3 := Tryz.underlying3
  have a3 := Tryz.isAgg3
  have z3 := Tryz.sizeOf3
  rw [run_neq_struct, show (10000 : Nat) = 9999 + 1 from rfl, run_equalIn_agg w 9999 68 _ _ Tryz.structLot Tryz.heldLot]
  simp only [Program.fieldsOf, Tryz.underlying68]
  go_simp
  by_cases h1 : a = x <;> by_cases h2 : b = y <;> simp [h1, h2]
set_option maxHeartbeats 2000000 in
set_option maxRecDepth 100000 in
theorem lots_same (v1 v2 : Value) (xs ys : List (Int × Int)) (hx : xs.length ≤ 1099511627776) (hy : ys.length ≤ 1099511627776) (w : World) (h1 : RowL w v1 xs) (h2 : RowL w v2 ys) :
    Calls Tryz.prog 37 #[v1, v2] w fun e w' => e = .returned (.bool (decide (xs = ys))) ∧ Below w.heap.size w w' := by
  have H1 := aside h1
  have H2 := aside h2
  obtain ⟨a1, c1, rfl, hc1, _⟩ := h1
  obtain ⟨a2, c2, rfl, hc2, _⟩ := h2
  obtain ⟨n, hn⟩ : ∃ n, n = xs.length := ⟨_, rfl⟩
  obtain ⟨m, hm⟩ : ∃ m, m = ys.length := ⟨_, rfl⟩
  rw [← hn] at hx hc1 ⊢
  rw [← hm] at hy hc2 ⊢
  have HN := aside hn
  have HM := aside hm
  clear hn hm
  go_enter Tryz.func37, Tryz.ntmps37
  by_cases hnm : n = m
  case neg =>
    have HR : Aside (decide (xs = ys) = false) := decide_eq_false (fun e => hnm (by rw [HN.out, HM.out, e]))
    have e1 : ((n : Int) != m) = true := by simp; omega
    clear hnm
    go_wp2_with fail
    go_ret
    exact ⟨by rw [HR.out]; rfl, Below.refl _ _⟩
  subst hnm
  go_wp2_with fail
  go_loopg [5] n (fun g v5 wr => ∃ k : Nat, k ≤ n ∧ v5 = .int .i64 k ∧ n - k ≤ g ∧ Aside (∀ j, j < k → xs.getD j (0, 0) = ys.getD j (0, 0)) ∧ Aside (Below w.heap.size w wr))
  case atStart => exact ⟨0, by omega, rfl, by omega, fun j h => by omega, Below.refl _ _⟩
  case round =>
    obtain ⟨k, hk, rfl, hg, HA, HB⟩ := hrel
    by_cases hlt : k < n
    · have hki : (k : Int) < n := by omega
      have HME : Aside (∀ q, n - k ≤ q → n - (k + 1) < q) := fun q h => by omega
      obtain ⟨a', cap', e, _, hj0⟩ := H1.out
      obtain ⟨lb, lo, ea, hlb, hj⟩ := hj0 (by have := HN.out; omega)
      obtain ⟨ea2, _, ec2⟩ := Value.slice.inj e
      subst ec2
      rw [ea] at ea2
      subst ea2
      have hjk := hj k (by rw [← HN.out]; exact hlt)
      have c0 := (HB.out.cell (p := ⟨lb, lo + k * 2, none⟩) hlb).trans hjk.1
      have c1' := (HB.out.cell (p := ⟨lb, lo + k * 2 + 1, none⟩) hlb).trans hjk.2
      obtain ⟨a'', cap'', e', _, hj0'⟩ := H2.out
      obtain ⟨lb', lo', ea', hlb', hj'⟩ := hj0' (by have := HM.out; omega)
      obtain ⟨ea2', _, ec2'⟩ := Value.slice.inj e'
      subst ec2'
      rw [ea'] at ea2'
      subst ea2'
      have hjk' := hj' k (by rw [← HM.out]; exact hlt)
      have c0' := (HB.out.cell (p := ⟨lb', lo' + k * 2, none⟩) hlb').trans hjk'.1
      have c1'' := (HB.out.cell (p := ⟨lb', lo' + k * 2 + 1, none⟩) hlb').trans hjk'.2
      obtain ⟨x, hxk⟩ : ∃ x, x = xs.getD k (0, 0) := ⟨_, rfl⟩
      obtain ⟨y, hyk⟩ : ∃ y, y = ys.getD k (0, 0) := ⟨_, rfl⟩
      rw [← hxk] at c0 c1'
      rw [← hyk] at c0' c1''
      have HX := aside hxk
      have HY := aside hyk
      clear hj0 hj hj0' hj' hxk hyk e e' ea ea' hjk hjk'
      obtain ⟨x1, x2⟩ := x
      obtain ⟨y1, y2⟩ := y
      have hne := neqLot x1 x2 y1 y2
      by_cases hxy : (x1, x2) = (y1, y2)
      · have e1 : (!(x1 == y1 && x2 == y2)) = false := by rw [Prod.mk.injEq] at hxy; simp [hxy.1, hxy.2]
        rw [e1] at hne
        clear e1
        have HA2 : Aside (∀ j, j < k + 1 → xs.getD j (0, 0) = ys.getD j (0, 0)) := by
          intro j hj
          by_cases ej : j = k
          · rw [ej, ← HX.out, ← HY.out, hxy]
          · exact HA.out j (by omega)
        clear hxy HA
        go_wp2_with fail
        go_quiet (fail)
        go_wp2_with fail
        go_roundg (n - (k + 1))
        case measure => exact HME.out _ hg
        case rel => exact ⟨k + 1, hlt, by go_num, Nat.le_refl _, HA2, HB.out.trans ((new_drewN _ _).mono HB.out.size)⟩
      · have e1 : (!(x1 == y1 && x2 == y2)) = true := by rw [Prod.mk.injEq] at hxy; by_cases q1 : x1 = y1 <;> by_cases q2 : x2 = y2 <;> simp_all
        rw [e1] at hne
        clear e1
        have HR : Aside (decide (xs = ys) = false) := decide_eq_false (fun e => hxy (by rw [HX.out, HY.out, e]))
        clear hxy HA
        go_wp2_with fail
        go_quiet (fail)
        go_wp2_with fail
        go_ret
        exact ⟨by rw [HR.out]; rfl, HB.out.trans ((new_drewN _ _).mono HB.out.size)⟩
    · have hki : ¬ (k : Int) < n := by omega
      have hkn : k = n := by omega
      have HR : Aside (decide (xs = ys) = true) := decide_eq_true (list_ext_getD (0, 0) (by rw [← HN.out, ← HM.out]) (fun j hj => HA.out j (by rw [hkn, HN.out]; exact hj)))
      clear hkn hlt HA hg
      go_wp2_with fail
      go_ret
      exact ⟨by rw [HR.out]; rfl, HB.out⟩
end Go.Proofs.YtkpmcjfolncmmaaGreatDoor
