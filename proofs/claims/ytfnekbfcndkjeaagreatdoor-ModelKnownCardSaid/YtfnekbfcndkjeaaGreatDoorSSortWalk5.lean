/- The library's stable sort of ints by a comparison: symMerge, where the second row is one cell. -/
import Derived.Test.YtfnekbfcndkjeaaGreatDoorSSortWalk3
import Derived.Deep.DeepCutAuto
set_option linter.all false
namespace Go.Proofs.YtfnekbfcndkjeaaGreatDoor
open Go.RowKit Go.Sort
open Go.Proofs.YtfnekbfcndkjeaaGreatDoor.Srt
variable {α : Type} [Inhabited α]
theorem sw_five {enc : α → Value} {w0 w2 : World} {blk off : Nat} {d0 dk : Array α} (S : SW enc w0 blk off dk w2) (R : Row1 enc w0 blk off d0) (hs : dk.size = d0.size) (p q : Nat) (hp : p < dk.size) (hq : q < dk.size) :
    w2.cell? ⟨blk, off + p, none⟩ = some (enc dk[p]!) ∧ w2.cell? ⟨blk, off + q, none⟩ = some (enc dk[q]!) ∧ w2.frozen? ⟨blk, off + p, none⟩ = false ∧ w2.frozen? ⟨blk, off + q, none⟩ = false ∧ ∃ u, (w2.setCell ⟨blk, off + p, none⟩ (enc dk[q]!)).cell? ⟨blk, off + q, none⟩ = some u :=
  ⟨S.c1 R hs p hp, S.c1 R hs q hq, S.f1 R hs p hp, S.f1 R hs q hq, S.c2 R hs p q hp hq _⟩
set_option maxHeartbeats 8000000 in
set_option maxRecDepth 100000 in
theorem symMerge_one {enc : α → Value} {T : α → α → Prop} {ix : α → Nat} {cf : α → α → Int} {g : Nat} {cb : Array Value} (blk off cap a m b : Nat) (d0 d : Array α) (w0 w : World) (C : CmpOK enc T ix cf g cb blk off d0.size w0) (R : Row1 enc w0 blk off d0) (hs : d0.size = d.size) (S : SW enc w0 blk off d w)
    (ham : a + 1 = m) (hmb : m < b) (hb : b ≤ d.size) (hsz : d.size ≤ 140737488355328) (hH : Halves T ix d a m b) :
    Calls Tryz.prog 125 #[.slice (some ⟨blk, off, none⟩) d.size cap, .int .i64 a, .int .i64 m, .int .i64 b, .func (.func g) #[] cb] w fun e w' =>
      e = .returned (.tuple #[]) ∧ Aside (∃ d', Merged T d d' a b ∧ SW enc w0 blk off d' w') := by
  have mixed := mixedP
  have hcl0 := R.hO.cells
  simp only [Value.cells] at hcl0
  have hst := R.hO.store Tryz.prog
  have eg := C.eg
  have S0 : Aside (SW enc w0 blk off d w) := S
  have HT : Aside _ := C.ord.trans
  have HC : Aside _ := C
  have HH : Aside _ := hH
  have HAM : Aside (a + 1 = m) := ham
  have am1 : a + 1 ≤ m := by omega
  have am2 : m ≤ a + 1 := by omega
  have amb : ((m : Int) - (a : Int) == 1) = true := by rw [beq_iff_eq]; omega
  clear C S hH ham
  go_enter Tryz.func125, Tryz.ntmps125
  go_wp2
  go_loopg [10, 11] (b - m) (fun g1 vi vj wr => ∃ (i j : Nat), vi = .int .i64 i ∧ vj = .int .i64 j ∧ m ≤ i ∧ i ≤ j ∧ j ≤ b ∧ j - i ≤ g1 ∧ Aside (∀ k, m ≤ k → k < i → T d[k]! d[a]!) ∧ Aside (∀ k, j ≤ k → k < b → T d[a]! d[k]!) ∧ Aside (SW enc w0 blk off d wr))
  case atStart => exact ⟨m, b, rfl, rfl, by omega, by omega, by omega, by omega, fun k h1 h2 => by omega, fun k h1 h2 => by omega, S0⟩
  case round =>
    clear S0
    obtain ⟨i, j, rfl, rfl, hi, hij, hj, hg, HL, HU, S1⟩ := hrel
    by_cases hlt : i < j
    · have hltz : (i : Int) < (j : Int) := by omega
      go_wp2_with fail
      obtain ⟨h, hh⟩ : ∃ h : Nat, h = (i + j) / 2 := ⟨_, rfl⟩
      have hhz : ((i : Int) + (j : Int)) / 2 = (h : Int) := by omega
      have h1 : i ≤ h := by omega
      have h2 : h < j := by omega
      rw [hhz]
      clear hh hhz
      obtain ⟨x, hx⟩ : ∃ x, x = d[h]! := ⟨_, rfl⟩
      obtain ⟨y, hy⟩ : ∃ x, x = d[a]! := ⟨_, rfl⟩
      have HXY : Aside (ix y < ix x) := by rw [Aside, hx, hy]; exact HH.out.cross a h (Nat.le_refl _) (by omega) (by omega) (by omega)
      have HX1 : Aside (x = d[h]!) := hx
      have HY1 : Aside (y = d[a]!) := hy
      have la := S1.out.cl R hs.symm h (by omega)
      have lb := S1.out.cl R hs.symm a (by omega)
      rw [← hx] at la
      rw [← hy] at lb
      have hc := S1.out.cmp HC.out.hc hs.symm x y
      have pa : (h : Int) < (d.size : Int) := by omega
      have pb : (a : Int) < (d.size : Int) := by omega
      clear hx hy
      by_cases hv : cf x y < 0
      · have hd : decide (cf x y < 0) = true := decide_eq_true hv
        have HV : Aside (cf x y < 0) := hv
        clear hv
        go_quiet_grown (first | (go_at_fn g; refine Calls.grown_of (hc _ _)))
        have S2 : Aside (SW enc w0 blk off d (grow (wr.drewN nq) osq)) := S1.out.grown nq osq
        clear la lb hc S1
        generalize grow (wr.drewN nq) osq = w2 at S2 ⊢
        clear nq osq
        go_wp2
        go_roundg (j - (h + 1))
        case measure => omega
        case rel =>
          have t : T d[h]! d[a]! := by rw [← HX1.out, ← HY1.out]; exact (HC.out.yes y x HXY.out).1 HV.out
          exact ⟨h + 1, j, by go_num, rfl, by omega, by omega, hj, by omega, fun k k1 k2 => by
            by_cases c : k = h
            · rw [c]; exact t
            · exact HT.out _ _ _ (HH.out.s2 k h k1 (by omega) (by omega)) t, HU, S2⟩
      · have hd : decide (cf x y < 0) = false := decide_eq_false hv
        have HV : Aside (¬ cf x y < 0) := hv
        clear hv
        go_quiet_grown (first | (go_at_fn g; refine Calls.grown_of (hc _ _)))
        have S2 : Aside (SW enc w0 blk off d (grow (wr.drewN nq) osq)) := S1.out.grown nq osq
        clear la lb hc S1
        generalize grow (wr.drewN nq) osq = w2 at S2 ⊢
        clear nq osq
        go_wp2
        go_roundg (h - i)
        case measure => omega
        case rel =>
          have t : T d[a]! d[h]! := by rw [← HX1.out, ← HY1.out]; exact HC.out.no y x HXY.out (by have := HV.out; omega)
          exact ⟨i, h, rfl, by go_num, hi, by omega, by omega, by omega, HL, fun k k1 k2 => by
            by_cases c : k = h
            · rw [c]; exact t
            · exact HT.out _ _ _ t (HH.out.s2 h k (by omega) (by omega) (by omega)), S2⟩
    · have hltz : ¬ (i : Int) < (j : Int) := by omega
      obtain rfl : i = j := by omega
      go_wp2
      go_loopg [13] (i - a) (fun g1 vk wr => ∃ (k : Nat) (dk : Array α), vk = .int .i64 k ∧ a ≤ k ∧ k + 1 ≤ i ∧ i - k ≤ g1 ∧ Aside (Rot d dk a (a + 1) (k + 1)) ∧ Aside (SW enc w0 blk off dk wr))
      case atStart => exact ⟨a, d, rfl, by omega, by omega, by omega, Rot.self_left _ _ _, S1⟩
      case round =>
        clear S1
        obtain ⟨k, dk, rfl, hk1, hk2, hg2, HR, S1⟩ := hrel
        have hsk : Aside (dk.size = d.size) := HR.out.1
        by_cases hk3 : k + 1 < i
        · have hkz : (k : Int) < (i : Int) - 1 := by omega
          obtain ⟨x, hx⟩ : ∃ x, x = dk[k]! := ⟨_, rfl⟩
          obtain ⟨y, hy⟩ : ∃ x, x = dk[k + 1]! := ⟨_, rfl⟩
          obtain ⟨jN, hjN⟩ : ∃ q, q = k + 1 := ⟨_, rfl⟩
          obtain ⟨ca, cb', fa, fb, u, cc⟩ := sw_five S1.out R (hsk.out.trans hs.symm) k (k + 1) (by rw [hsk.out]; omega) (by rw [hsk.out]; omega)
          have S4 : Aside (SW enc w0 blk off (swp dk k (k + 1)) ((wr.setCell ⟨blk, off + k, none⟩ (enc y)).setCell ⟨blk, off + jN, none⟩ (enc x)).drew) := by rw [hjN, hx, hy]; exact S1.out.swapped R k (k + 1) (by rw [hsk.out]; omega) (by rw [hsk.out]; omega)
          have eb : ((k : Int) + 1).toNat = jN := by omega
          have pb : (0 : Int) ≤ (k : Int) + 1 := by omega
          have bb : (k : Int) + 1 < (d.size : Int) := by omega
          have ba : (k : Int) < (d.size : Int) := by omega
          have rb : IntKind.i64.wrap ((k : Int) + 1) = (k : Int) + 1 := by rw [IntKind.wrap_i64]; omega
          rw [← hx] at ca
          rw [← hy, ← hjN] at cb'
          rw [← hjN] at fb
          rw [← hy, ← hjN] at cc
          clear hx hy hjN S1
          go_wp2_with fail
          go_region
          clear ca cb' cc fa fb
          generalize ((wr.setCell ⟨blk, off + k, none⟩ (enc y)).setCell ⟨blk, off + jN, none⟩ (enc x)).drew = w3 at S4 ⊢
          clear eb rb
          go_wp2
          go_roundg (i - (k + 1))
          case measure => omega
          case rel => exact ⟨k + 1, _, by go_num, by omega, by omega, by omega, HR.out.up hk1 (by omega), S4⟩
        · have hkz : ¬ (k : Int) < (i : Int) - 1 := by omega
          go_wp2
          refine bodyPost_ret (results_none rfl _ _ _) rfl ⟨rfl, dk, ?_, S1.out⟩
          have hh := HH.out
          rw [← HAM.out] at hh
          have hr := HR.out
          rw [show k + 1 = i by omega] at hr
          exact merged_one HT.out hh (by omega) (by omega) hr (fun q q1 q2 => HL.out q (by omega) q2) HU.out
end Go.Proofs.YtfnekbfcndkjeaaGreatDoor
namespace Go.Proofs.YtfnekbfcndkjeaaGreatDoor
open Go.RowKit Go.Sort
open Go.Proofs.YtfnekbfcndkjeaaGreatDoor.Srt
variable {α : Type} [Inhabited α]
set_option maxHeartbeats 8000000 in
set_option maxRecDepth 100000 in
theorem symMerge_last {enc : α → Value} {T : α → α → Prop} {ix : α → Nat} {cf : α → α → Int} {g : Nat} {cb : Array Value} (blk off cap a m b : Nat) (d0 d : Array α) (w0 w : World) (C : CmpOK enc T ix cf g cb blk off d0.size w0) (R : Row1 enc w0 blk off d0) (hs : d0.size = d.size) (S : SW enc w0 blk off d w)
    (ham : a + 1 < m) (hmb : m + 1 = b) (hb : b ≤ d.size) (hsz : d.size ≤ 140737488355328) (hH : Halves T ix d a m b) :
    Calls Tryz.prog 125 #[.slice (some ⟨blk, off, none⟩) d.size cap, .int .i64 a, .int .i64 m, .int .i64 b, .func (.func g) #[] cb] w fun e w' =>
      e = .returned (.tuple #[]) ∧ Aside (∃ d', Merged T d d' a b ∧ SW enc w0 blk off d' w') := by
  have mixed := mixedP
  have hcl0 := R.hO.cells
  simp only [Value.cells] at hcl0
  have hst := R.hO.store Tryz.prog
  have eg := C.eg
  have S0 : Aside (SW enc w0 blk off d w) := S
  have HT : Aside _ := C.ord.trans
  have HC : Aside _ := C
  have HH : Aside _ := hH
  have HAM : Aside (m + 1 = b) := hmb
  have am1 : m + 1 ≤ b := by omega
  have am2 : b ≤ m + 1 := by omega
  have ama : ((m : Int) - (a : Int) == 1) = false := by rw [beq_eq_false_iff_ne]; omega
  have amb : ((b : Int) - (m : Int) == 1) = true := by rw [beq_iff_eq]; omega
  clear C S hH hmb
  go_enter Tryz.func125, Tryz.ntmps125
  go_wp2
  go_loopg [14, 15] (m - a) (fun g1 vi vj wr => ∃ (i j : Nat), vi = .int .i64 i ∧ vj = .int .i64 j ∧ a ≤ i ∧ i ≤ j ∧ j ≤ m ∧ j - i ≤ g1 ∧ Aside (∀ k, a ≤ k → k < i → T d[k]! d[m]!) ∧ Aside (∀ k, j ≤ k → k < m → T d[m]! d[k]!) ∧ Aside (SW enc w0 blk off d wr))
  case atStart => exact ⟨a, m, rfl, rfl, by omega, by omega, by omega, by omega, fun k h1 h2 => by omega, fun k h1 h2 => by omega, S0⟩
  case round =>
    clear S0
    obtain ⟨i, j, rfl, rfl, hi, hij, hj, hg, HL, HU, S1⟩ := hrel
    by_cases hlt : i < j
    · have hltz : (i : Int) < (j : Int) := by omega
      go_wp2_with fail
      obtain ⟨h, hh⟩ : ∃ h : Nat, h = (i + j) / 2 := ⟨_, rfl⟩
      have hhz : ((i : Int) + (j : Int)) / 2 = (h : Int) := by omega
      have h1 : i ≤ h := by omega
      have h2 : h < j := by omega
      rw [hhz]
      clear hh hhz
      obtain ⟨x, hx⟩ : ∃ x, x = d[m]! := ⟨_, rfl⟩
      obtain ⟨y, hy⟩ : ∃ x, x = d[h]! := ⟨_, rfl⟩
      have HXY : Aside (ix y < ix x) := by rw [Aside, hx, hy]; exact HH.out.cross h m (by omega) (by omega) (by omega) (by omega)
      have HX1 : Aside (x = d[m]!) := hx
      have HY1 : Aside (y = d[h]!) := hy
      have la := S1.out.cl R hs.symm m (by omega)
      have lb := S1.out.cl R hs.symm h (by omega)
      rw [← hx] at la
      rw [← hy] at lb
      have hc := S1.out.cmp HC.out.hc hs.symm x y
      have pa : (h : Int) < (d.size : Int) := by omega
      have pb : (m : Int) < (d.size : Int) := by omega
      clear hx hy
      by_cases hv : cf x y < 0
      · have hd : decide (cf x y < 0) = true := decide_eq_true hv
        have HV : Aside (cf x y < 0) := hv
        clear hv
        go_quiet_grown (first | (go_at_fn g; refine Calls.grown_of (hc _ _)))
        have S2 : Aside (SW enc w0 blk off d (grow (wr.drewN nq) osq)) := S1.out.grown nq osq
        clear la lb hc S1
        generalize grow (wr.drewN nq) osq = w2 at S2 ⊢
        clear nq osq
        go_wp2
        go_roundg (h - i)
        case measure => omega
        case rel =>
          have t : T d[m]! d[h]! := by rw [← HX1.out, ← HY1.out]; exact (HC.out.yes y x HXY.out).1 HV.out
          exact ⟨i, h, rfl, by go_num, hi, by omega, by omega, by omega, HL, fun k k1 k2 => by
            by_cases c : k = h
            · rw [c]; exact t
            · exact HT.out _ _ _ t (HH.out.s1 h k (by omega) (by omega) (by omega)), S2⟩
      · have hd : decide (cf x y < 0) = false := decide_eq_false hv
        have HV : Aside (¬ cf x y < 0) := hv
        clear hv
        go_quiet_grown (first | (go_at_fn g; refine Calls.grown_of (hc _ _)))
        have S2 : Aside (SW enc w0 blk off d (grow (wr.drewN nq) osq)) := S1.out.grown nq osq
        clear la lb hc S1
        generalize grow (wr.drewN nq) osq = w2 at S2 ⊢
        clear nq osq
        go_wp2
        go_roundg (j - (h + 1))
        case measure => omega
        case rel =>
          have t : T d[h]! d[m]! := by rw [← HX1.out, ← HY1.out]; exact HC.out.no y x HXY.out (by have := HV.out; omega)
          exact ⟨h + 1, j, by go_num, rfl, by omega, by omega, hj, by omega, fun k k1 k2 => by
            by_cases c : k = h
            · rw [c]; exact t
            · exact HT.out _ _ _ (HH.out.s1 k h k1 (by omega) (by omega)) t, HU, S2⟩
    · have hltz : ¬ (i : Int) < (j : Int) := by omega
      obtain rfl : i = j := by omega
      go_wp2
      go_loopg [17] (m - i) (fun g1 vk wr => ∃ (k : Nat) (dk : Array α), vk = .int .i64 k ∧ i ≤ k ∧ k ≤ m ∧ k - i ≤ g1 ∧ Aside (Rot d dk k m (m + 1)) ∧ Aside (SW enc w0 blk off dk wr))
      case atStart => exact ⟨m, d, rfl, by omega, by omega, by omega, Rot.self_right _ _ _, S1⟩
      case round =>
        clear S1
        obtain ⟨k, dk, rfl, hk1, hk2, hg2, HR, S1⟩ := hrel
        have hsk : Aside (dk.size = d.size) := HR.out.1
        by_cases hk3 : i < k
        · have hkz : (i : Int) < (k : Int) := by omega
          obtain ⟨x, hx⟩ : ∃ x, x = dk[k]! := ⟨_, rfl⟩
          obtain ⟨y, hy⟩ : ∃ x, x = dk[k - 1]! := ⟨_, rfl⟩
          obtain ⟨jN, hjN⟩ : ∃ q, q = k - 1 := ⟨_, rfl⟩
          obtain ⟨ca, cb', fa, fb, u, cc⟩ := sw_five S1.out R (hsk.out.trans hs.symm) k (k - 1) (by rw [hsk.out]; omega) (by rw [hsk.out]; omega)
          have S4 : Aside (SW enc w0 blk off (swp dk k (k - 1)) ((wr.setCell ⟨blk, off + k, none⟩ (enc y)).setCell ⟨blk, off + jN, none⟩ (enc x)).drew) := by rw [hjN, hx, hy]; exact S1.out.swapped R k (k - 1) (by rw [hsk.out]; omega) (by rw [hsk.out]; omega)
          have eb : ((k : Int) - 1).toNat = jN := by omega
          have pb : (0 : Int) ≤ (k : Int) - 1 := by omega
          have pb' : (1 : Int) ≤ (k : Int) := by omega
          have bb : (k : Int) - 1 < (d.size : Int) := by omega
          have ba : (k : Int) < (d.size : Int) := by omega
          have rb : IntKind.i64.wrap ((k : Int) - 1) = (k : Int) - 1 := by rw [IntKind.wrap_i64]; omega
          rw [← hx] at ca
          rw [← hy, ← hjN] at cb'
          rw [← hjN] at fb
          rw [← hy, ← hjN] at cc
          clear hx hy hjN S1
          go_wp2_with fail
          go_region
          clear ca cb' cc fa fb
          generalize ((wr.setCell ⟨blk, off + k, none⟩ (enc y)).setCell ⟨blk, off + jN, none⟩ (enc x)).drew = w3 at S4 ⊢
          clear eb rb
          go_wp2
          go_roundg (k - 1 - i)
          case measure => omega
          case rel =>
            refine ⟨k - 1, _, by first | go_num | (congr 1; omega), by omega, by omega, by omega, ?_, S4⟩
            have := HR.out
            obtain ⟨kp, rfl⟩ : ∃ kp, k = kp + 1 := ⟨k - 1, by omega⟩
            exact Rot.down this (by omega) (by omega)
        · have hkz : ¬ (i : Int) < (k : Int) := by omega
          go_wp2
          refine bodyPost_ret (results_none rfl _ _ _) rfl ⟨rfl, dk, ?_, S1.out⟩
          have hh := HH.out
          rw [← HAM.out] at hh ⊢
          have hr := HR.out
          rw [show k = i by omega] at hr
          exact merged_last HT.out hh hi hj hr HL.out HU.out
end Go.Proofs.YtfnekbfcndkjeaaGreatDoor
