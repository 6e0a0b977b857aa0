/- chain's told, all, and the closures of may and scene, walked. -/
import Derived.Test.YtkpmcjfolncmmaaGreatDoorSRec2
set_option linter.all false
namespace Go.Proofs.YtkpmcjfolncmmaaGreatDoor
open Go.RowKit
def toldB (s x p : Int) : Bool := if s = 3 then decide (x = -1) && decide (p = 0) else (decide (s = 2) || decide (s = 4)) && withinB x 0 7 && decide (p ≤ 16777216)
set_option maxHeartbeats 2000000 in
theorem told_any (s x p : Int) (w : World) : Calls Tryz.prog 59 #[.agg #[.int .i64 s, .int .i64 x, .int .u64 p]] w fun e w' => e = .returned (.bool (toldB s x p)) ∧ Below w.heap.size w w' := by
  have hb : Below w.heap.size w (w.alloc (.cells #[.int .i64 s, .int .i64 x, .int .u64 p] 35)) := new_alloc _ _
  have HB := aside hb
  clear hb
  go_enter Tryz.func59, Tryz.ntmps59
  by_cases h3 : s = 3
  · subst h3
    by_cases h1 : x = -1
    · subst h1
      by_cases h2 : p = 0
      · subst h2
        go_wp2
        go_ret
        exact ⟨rfl, HB.out⟩
      · have e2 : (p == 0) = false := by simpa using h2
        have HR : Aside (toldB 3 (-1) p = false) := by simp [Aside, toldB, h2]
        go_wp2
        go_ret
        exact ⟨by rw [HR.out]; rfl, HB.out⟩
    · have e1 : (x == -1) = false := by simpa using h1
      have HR : Aside (toldB 3 x p = false) := by simp [Aside, toldB, h1]
      go_wp2
      go_ret
      exact ⟨by rw [HR.out]; rfl, HB.out⟩
  · have e3 : (s == 3) = false := by simpa using h3
    by_cases h24 : s = 2 ∨ s = 4
    · have HR0 : toldB s x p = (withinB x 0 7 && decide (p ≤ 16777216)) := by
        rcases h24 with rfl | rfl <;> simp [toldB]
      have HR := aside HR0
      clear HR0 h3
      rcases h24 with rfl | rfl
      all_goals
        go_wp2_with fail
        refine (within_any x 0 7 _).mono ?_
        rintro e w1 ⟨rfl, rfl⟩
        by_cases hw : withinB x 0 7 = true
        · by_cases hp : p ≤ 16777216
          · have HF := HR.out
            rw [hw, decide_eq_true hp] at HF
            have HF := aside HF
            have e4 : decide (p ≤ 16777216) = true := decide_eq_true hp
            clear hp
            go_wp2
            go_ret
            exact ⟨by rw [HF.out]; rfl, HB.out⟩
          · have HF := HR.out
            rw [hw, decide_eq_false hp] at HF
            have HF := aside HF
            have e4 : decide (p ≤ 16777216) = false := decide_eq_false hp
            clear hp
            go_wp2
            go_ret
            exact ⟨by rw [HF.out]; rfl, HB.out⟩
        · have hw' : withinB x 0 7 = false := by simpa using hw
          have HF := HR.out
          rw [hw'] at HF
          have HF := aside HF
          clear hw
          go_wp2
          go_ret
          exact ⟨by rw [HF.out]; rfl, HB.out⟩
    · have h2 : ¬ s = 2 := fun h => h24 (.inl h)
      have h4 : ¬ s = 4 := fun h => h24 (.inr h)
      have e2 : (s == 2) = false := by simpa using h2
      have e4 : (s == 4) = false := by simpa using h4
      have HR : Aside (toldB s x p = false) := by simp [Aside, toldB, h2, h3, h4]
      clear h24 h2 h3 h4
      go_wp2
      go_ret
      exact ⟨by rw [HR.out]; rfl, HB.out⟩
def allTo (f : Nat → Bool) : Nat → Bool
  | 0 => true
  | k + 1 => allTo f k && f k
theorem allTo_no (f : Nat → Bool) (k : Nat) : ∀ n, k < n → f k = false → allTo f n = false
  | 0, h, _ => by omega
  | n + 1, h, hf => by
    by_cases e : k = n
    · subst e; rw [allTo, hf, Bool.and_false]
    · rw [allTo, allTo_no f k n (by omega) hf, Bool.false_and]
theorem allTo_iff (f : Nat → Bool) : ∀ n, allTo f n = true ↔ ∀ k, k < n → f k = true
  | 0 => by simp [allTo]
  | n + 1 => by
    rw [allTo, Bool.and_eq_true, allTo_iff f n]
    constructor
    · rintro ⟨h1, h2⟩ k hk
      by_cases e : k = n
      · exact e ▸ h2
      · exact h1 k (by omega)
    · intro h
      exact ⟨fun k hk => h k (by omega), h n (by omega)⟩
def riseAt (xs : List Int) (k : Nat) : Bool := withinB (xs.getD k 0) 0 7 && (decide (k = 0) || decide (xs.getD (k - 1) 0 < xs.getD k 0))
set_option maxHeartbeats 2000000 in
theorem may1_any (L : Nat) (rv : RecV) (xs : List Int) (hxs : xs.length ≤ 9223372036854775807) (k : Nat) (hk : k < xs.length) (w : World) (hr : RecIn w L rv) (hx : RowI w rv.barred xs) :
    Calls Tryz.prog 58 #[.int .i64 k, .int .i64 (xs.getD k 0), .pointer (some ⟨L, 0, none⟩)] w fun e w' => e = .returned (.bool (riseAt xs k)) ∧ w' = w := by
  obtain ⟨a, cap, hv, hcap, hx⟩ := hx
  obtain ⟨lb, lo, rfl, hlb, hj⟩ := hx (by omega)
  have c5 := hr.barred
  rw [hv] at c5
  obtain ⟨x, hxk⟩ : ∃ x, x = xs.getD k 0 := ⟨_, rfl⟩
  have HX := aside hxk
  obtain ⟨n, hn⟩ : ∃ n, n = xs.length := ⟨_, rfl⟩
  have HN := aside hn
  rw [← hn] at hk c5 hcap hxs
  rw [← hxk]
  have HJ := aside hj
  clear hv hx hj hr hxk hn
  go_enter Tryz.func58, Tryz.ntmps58
  go_wp2_with fail
  refine (within_any x 0 7 _).mono ?_
  rintro e w1 ⟨rfl, rfl⟩
  by_cases hw : withinB x 0 7 = true
  · by_cases h0 : k = 0
    · subst h0
      have HF : Aside (riseAt xs 0 = true) := by
        have := HX.out
        simp only [Aside, riseAt, ← this, hw]; rfl
      go_wp2
      go_ret
      exact ⟨by rw [HF.out]; rfl, rfl⟩
    · obtain ⟨j, rfl⟩ : ∃ j, k = j + 1 := ⟨k - 1, by omega⟩
      have hjn := HJ.out j (by have := HN.out; omega)
      obtain ⟨y, hy⟩ : ∃ y, y = xs.getD j 0 := ⟨_, rfl⟩
      rw [← hy] at hjn
      have e0 : ((((j + 1 : Nat) : Int)) == 0) = false := by simp; omega
      have e1 : IntKind.i64.wrap (((j + 1 : Nat) : Int) - 1) = (j : Int) := by
        rw [show ((j + 1 : Nat) : Int) - 1 = (j : Int) by omega]
        exact IntWalk.i64_in _ (by omega)
      have hji : (j : Int) < n := by omega
      have hji0 : (0 : Int) ≤ j := by omega
      have HF0 : riseAt xs (j + 1) = decide (y < x) := by
        rw [riseAt, ← HX.out, hw, Nat.add_sub_cancel, ← hy]; simp
      by_cases hlt : y < x
      · have e2 : decide (y < x) = true := decide_eq_true hlt
        rw [e2] at HF0
        have HF := aside HF0
        clear HF0 hlt hy h0 hk
        go_wp2
        go_ret
        exact ⟨by rw [HF.out]; rfl, rfl⟩
      · have e2 : decide (y < x) = false := decide_eq_false hlt
        rw [e2] at HF0
        have HF := aside HF0
        clear HF0 hlt hy h0 hk
        go_wp2
        go_ret
        exact ⟨by rw [HF.out]; rfl, rfl⟩
  · have hw' : withinB x 0 7 = false := by simpa using hw
    have HF : Aside (riseAt xs k = false) := by rw [Aside, riseAt, ← HX.out, hw', Bool.false_and]
    clear hw
    go_wp2
    go_ret
    exact ⟨by rw [HF.out]; rfl, rfl⟩
set_option maxHeartbeats 2000000 in
theorem scene2_any (k x : Int) (w : World) : Calls Tryz.prog 82 #[.int .i64 k, .int .i64 x] w fun e w' => e = .returned (.bool (withinB x 0 7)) ∧ w' = w := by
  go_enter Tryz.func82, Tryz.ntmps82
  go_wp2_with fail
  refine (within_any x 0 7 _).mono ?_
  rintro e w1 ⟨rfl, rfl⟩
  go_wp2
  go_ret
  exact ⟨rfl, rfl⟩
def lotB (x : Int × Int) : Bool := withinB x.1 0 63 && withinB x.2 0 16777216
set_option maxHeartbeats 2000000 in
theorem scene1_any (k x y : Int) (w : World) : Calls Tryz.prog 81 #[.int .i64 k, .agg #[.int .i64 x, .int .i64 y]] w fun e w' => e = .returned (.bool (lotB (x, y))) ∧ Below w.heap.size w w' := by
  have HB := aside (new_alloc w (.cells #[.int .i64 x, .int .i64 y] 68))
  go_enter Tryz.func81, Tryz.ntmps81
  go_wp2_with fail
  refine (within_any x 0 63 _).mono ?_
  rintro e w1 ⟨rfl, rfl⟩
  by_cases hw : withinB x 0 63 = true
  · go_wp2_with fail
    refine (within_any y 0 16777216 _).mono ?_
    rintro e w2 ⟨rfl, rfl⟩
    have HF : Aside (lotB (x, y) = withinB y 0 16777216) := by rw [Aside, lotB, hw, Bool.true_and]
    clear hw
    go_wp2
    go_ret
    exact ⟨by rw [HF.out]; rfl, HB.out⟩
  · have hw' : withinB x 0 63 = false := by simpa using hw
    have HF : Aside (lotB (x, y) = false) := by rw [Aside, lotB, hw', Bool.false_and]
    clear hw
    go_wp2
    go_ret
    exact ⟨by rw [HF.out]; rfl, HB.out⟩
def inAt (xs : List Int) (k : Nat) : Bool := withinB (xs.getD k 0) 0 7
def lotAt (xs : List (Int × Int)) (k : Nat) : Bool := lotB (xs.getD k (0, 0))
set_option maxHeartbeats 2000000 in
theorem allRise_any (L : Nat) (rv : RecV) (v : Value) (xs : List Int) (hxs : xs.length ≤ 9223372036854775807) (w : World) (hx : RowI w v xs) (hr : RecIn w L rv) (hv : rv.barred = v) :
    Calls Tryz.prog 57 #[v, .func (.func 58) #[] #[.pointer (some ⟨L, 0, none⟩)]] w fun e w' => e = .returned (.bool (allTo (riseAt xs) xs.length)) ∧ w' = w := by
  have HX := aside hx
  have HRV := aside hr
  have HV := aside hv
  clear hr hv
  obtain ⟨a, cap, rfl, hcap, _⟩ := hx
  obtain ⟨n, hn⟩ : ∃ n, n = xs.length := ⟨_, rfl⟩
  have HN := aside hn
  have HNX := aside hxs
  rw [← hn] at hxs ⊢
  have H0 : Aside (allTo (riseAt xs) 0 = true) := rfl
  clear hn hcap
  go_enter Tryz.func57, Tryz.ntmps57
  go_wp2_with fail
  go_loopg [9] n (fun gk v9 wr => ∃ k : Nat, k ≤ n ∧ v9 = .int .i64 k ∧ n - k ≤ gk ∧ Aside (allTo (riseAt xs) k = true) ∧ wr = w)
  case atStart => exact ⟨0, by omega, rfl, by omega, H0, rfl⟩
  case round =>
    clear H0
    obtain ⟨k, hk, rfl, hgk, HA, rfl⟩ := hrel
    by_cases hlt : k < n
    · have hki : (k : Int) < n := by omega
      obtain ⟨a', cap', e, _, hj0⟩ := HX.out
      obtain ⟨lb, lo, ea, hlb, hj⟩ := hj0 (by have := HN.out; omega)
      obtain ⟨ea2, _, ec2⟩ := Value.slice.inj e
      clear hj0
      subst ec2
      subst ea2
      subst ea
      have c0 := hj k (by rw [← HN.out]; exact hlt)
      have HC := aside c0
      obtain ⟨x, hxk⟩ : ∃ x, x = xs.getD k 0 := ⟨_, rfl⟩
      rw [← hxk] at c0
      have HXK := aside hxk
      clear hj hxk e
      go_wp2_with fail
      rw [HXK.out]
      refine (may1_any L rv xs HNX.out k (by rw [← HN.out]; exact hlt) _ HRV.out (by rw [HV.out]; exact HX.out)).mono ?_
      rintro e w2 ⟨rfl, rfl⟩
      clear c0
      by_cases hf : (riseAt xs) k = true
      · have HA2 : Aside (allTo (riseAt xs) (k + 1) = true) := by
          rw [Aside, allTo, HA.out, hf]; rfl
        rw [show riseAt xs k = true from hf]
        clear hf
        go_wp2_with fail
        go_roundg (n - (k + 1))
        case measure => omega
        case rel => exact ⟨k + 1, by omega, rfl, by omega, HA2, rfl⟩
      · have hf' : (riseAt xs) k = false := by simpa using hf
        have HF : Aside (allTo (riseAt xs) n = false) := allTo_no _ k n hlt hf'
        rw [show riseAt xs k = false from hf']
        clear hf hf'
        go_wp2_with fail
        go_ret
        exact ⟨by rw [HF.out]; rfl, rfl⟩
    · have hki : ¬ (k : Int) < n := by omega
      have hkn : k = n := by omega
      have HF : Aside (allTo (riseAt xs) n = true) := by rw [← hkn]; exact HA
      clear hkn hlt HA
      go_wp2_with fail
      go_ret
      exact ⟨by rw [HF.out]; rfl, rfl⟩
set_option maxHeartbeats 2000000 in
theorem allIn_any  (v : Value) (xs : List Int) (hxs : xs.length ≤ 9223372036854775807) (w : World) (hx : RowI w v xs) :
    Calls Tryz.prog 57 #[v, .func (.func 82) #[] #[]] w fun e w' => e = .returned (.bool (allTo (inAt xs) xs.length)) ∧ w' = w := by
  have HX := aside hx
  obtain ⟨a, cap, rfl, hcap, _⟩ := hx
  obtain ⟨n, hn⟩ : ∃ n, n = xs.length := ⟨_, rfl⟩
  have HN := aside hn
  have HNX := aside hxs
  rw [← hn] at hxs ⊢
  have H0 : Aside (allTo (inAt xs) 0 = true) := rfl
  clear hn hcap
  go_enter Tryz.func57, Tryz.ntmps57
  go_wp2_with fail
  go_loopg [9] n (fun gk v9 wr => ∃ k : Nat, k ≤ n ∧ v9 = .int .i64 k ∧ n - k ≤ gk ∧ Aside (allTo (inAt xs) k = true) ∧ wr = w)
  case atStart => exact ⟨0, by omega, rfl, by omega, H0, rfl⟩
  case round =>
    clear H0
    obtain ⟨k, hk, rfl, hgk, HA, rfl⟩ := hrel
    by_cases hlt : k < n
    · have hki : (k : Int) < n := by omega
      obtain ⟨a', cap', e, _, hj0⟩ := HX.out
      obtain ⟨lb, lo, ea, hlb, hj⟩ := hj0 (by have := HN.out; omega)
      obtain ⟨ea2, _, ec2⟩ := Value.slice.inj e
      clear hj0
      subst ec2
      subst ea2
      subst ea
      have c0 := hj k (by rw [← HN.out]; exact hlt)
      have HC := aside c0
      obtain ⟨x, hxk⟩ : ∃ x, x = xs.getD k 0 := ⟨_, rfl⟩
      rw [← hxk] at c0
      have HXK := aside hxk
      clear hj hxk e
      go_wp2_with fail
      rw [HXK.out]
      refine (scene2_any (k : Int) (xs.getD k 0) _).mono ?_
      rintro e w2 ⟨rfl, rfl⟩
      rw [← HXK.out]
      clear c0
      by_cases hf : withinB (xs.getD k 0) 0 7 = true
      · have HA2 : Aside (allTo (inAt xs) (k + 1) = true) := by
          rw [Aside, allTo, HA.out, inAt, hf]; rfl
        rw [show withinB x 0 7 = true from by rw [HXK.out]; exact hf]
        clear hf
        go_wp2_with fail
        go_roundg (n - (k + 1))
        case measure => omega
        case rel => exact ⟨k + 1, by omega, rfl, by omega, HA2, rfl⟩
      · have hf' : withinB (xs.getD k 0) 0 7 = false := by simpa using hf
        have HF : Aside (allTo (inAt xs) n = false) := allTo_no _ k n hlt hf'
        rw [show withinB x 0 7 = false from by rw [HXK.out]; exact hf']
        clear hf hf'
        go_wp2_with fail
        go_ret
        exact ⟨by rw [HF.out]; rfl, rfl⟩
    · have hki : ¬ (k : Int) < n := by omega
      have hkn : k = n := by omega
      have HF : Aside (allTo (inAt xs) n = true) := by rw [← hkn]; exact HA
      clear hkn hlt HA
      go_wp2_with fail
      go_ret
      exact ⟨by rw [HF.out]; rfl, rfl⟩
set_option maxHeartbeats 2000000 in
theorem allL_any (v : Value) (xs : List (Int × Int)) (hxs : xs.length ≤ 9223372036854775807) (w : World) (hx : RowL w v xs) :
    Calls Tryz.prog 80 #[v, .func (.func 81) #[] #[]] w fun e w' => e = .returned (.bool (allTo (lotAt xs) xs.length)) ∧ Below w.heap.size w w' := by
  have HX := aside hx
  obtain ⟨a, cap, rfl, hcap, _⟩ := hx
  obtain ⟨n, hn⟩ : ∃ n, n = xs.length := ⟨_, rfl⟩
  have HN := aside hn
  rw [← hn] at hxs ⊢
  have H0 : Aside (allTo (lotAt xs) 0 = true) := rfl
  have HB0 : Aside (Below w.heap.size w w) := Below.refl _ _
  clear hn hcap
  go_enter Tryz.func80, Tryz.ntmps80
  go_wp2_with fail
  go_loopg [9] n (fun gk v9 wr => ∃ k : Nat, k ≤ n ∧ v9 = .int .i64 k ∧ n - k ≤ gk ∧ Aside (allTo (lotAt xs) k = true) ∧ Aside (Below w.heap.size w wr))
  case atStart => exact ⟨0, by omega, rfl, by omega, H0, HB0⟩
  case round =>
    clear H0 HB0
    obtain ⟨k, hk, rfl, hgk, HA, HB⟩ := hrel
    by_cases hlt : k < n
    · have hki : (k : Int) < n := by omega
      obtain ⟨a', cap', e, _, hj0⟩ := HX.out
      obtain ⟨lb, lo, ea, hlb, hj⟩ := hj0 (by have := HN.out; omega)
      obtain ⟨ea2, _, ec2⟩ := Value.slice.inj e
      clear hj0
      subst ec2
      subst ea2
      subst ea
      have hjk := hj k (by rw [← HN.out]; exact hlt)
      obtain ⟨x, hxk⟩ : ∃ x, x = xs.getD k (0, 0) := ⟨_, rfl⟩
      rw [← hxk] at hjk
      obtain ⟨x, y⟩ := x
      have HXK := aside hxk
      have c0 : wr.cell? ⟨lb, lo + k * 2, none⟩ = some (.int .i64 x) := (HB.out.cell (p := ⟨lb, lo + k * 2, none⟩) hlb).trans hjk.1
      have c1 : wr.cell? ⟨lb, lo + k * 2 + 1, none⟩ = some (.int .i64 y) := (HB.out.cell (p := ⟨lb, lo + k * 2 + 1, none⟩) hlb).trans hjk.2
      have HB1 : Aside (Below w.heap.size w (wr.alloc (.cells #[.int .i64 x, .int .i64 y] 68))) := HB.out.alloc HB.out.size _
      clear hj hjk hxk HB e
      go_wp2_with fail
      refine (scene1_any (k : Int) x y _).mono ?_
      rintro e w2 ⟨rfl, hb2⟩
      have HB2 := aside (HB1.out.trans (hb2.mono HB1.out.size))
      clear hb2 c0 c1
      by_cases hf : lotB (x, y) = true
      · have HA2 : Aside (allTo (lotAt xs) (k + 1) = true) := by
          rw [Aside, allTo, HA.out, lotAt, ← HXK.out, hf]; rfl
        rw [hf]
        clear hf
        go_wp2_with fail
        go_roundg (n - (k + 1))
        case measure => omega
        case rel => exact ⟨k + 1, by omega, rfl, by omega, HA2, HB2⟩
      · have hf' : lotB (x, y) = false := by simpa using hf
        have HF : Aside (allTo (lotAt xs) n = false) := allTo_no _ k n hlt (by rw [lotAt, ← HXK.out]; exact hf')
        rw [hf']
        clear hf hf'
        go_wp2_with fail
        go_ret
        exact ⟨by rw [HF.out]; rfl, HB2.out⟩
    · have hki : ¬ (k : Int) < n := by omega
      have hkn : k = n := by omega
      have HF : Aside (allTo (lotAt xs) n = true) := by rw [← hkn]; exact HA
      clear hkn hlt HA
      go_wp2_with fail
      go_ret
      exact ⟨by rw [HF.out]; rfl, HB.out⟩
end Go.Proofs.YtkpmcjfolncmmaaGreatDoor
