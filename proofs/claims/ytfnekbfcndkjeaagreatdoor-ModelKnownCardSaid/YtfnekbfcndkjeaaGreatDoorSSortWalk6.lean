/- The library's stable sort of ints by a comparison: symMerge. -/
import Derived.Test.YtfnekbfcndkjeaaGreatDoorSSortWalk5
set_option linter.all false
namespace Go.Proofs.YtfnekbfcndkjeaaGreatDoor
open Go.RowKit Go.Sort
open Go.Proofs.YtfnekbfcndkjeaaGreatDoor.Srt
variable {α : Type} [Inhabited α]
def SymOK (enc : α → Value) (T : α → α → Prop) (ix : α → Nat) (g : Nat) (cb : Array Value) (blk off cap size : Nat) (w0 : World) (N : Nat) : Prop :=
  ∀ (a m b : Nat) (d : Array α) (w : World), b - a ≤ N → d.size = size → SW enc w0 blk off d w → a < m → m < b → b ≤ size → Halves T ix d a m b →
    Calls Tryz.prog 125 #[.slice (some ⟨blk, off, none⟩) size cap, .int .i64 a, .int .i64 m, .int .i64 b, .func (.func g) #[] cb] w fun e w' =>
      e = .returned (.tuple #[]) ∧ Aside (∃ d', Merged T d d' a b ∧ SW enc w0 blk off d' w')
set_option maxHeartbeats 16000000 in
set_option maxRecDepth 100000 in
theorem symMerge_many {enc : α → Value} {T : α → α → Prop} {ix : α → Nat} {cf : α → α → Int} {g : Nat} {cb : Array Value} (blk off cap size N : Nat) (d0 : Array α) (w0 : World) (C : CmpOK enc T ix cf g cb blk off d0.size w0) (R : Row1 enc w0 blk off d0) (hs : d0.size = size) (hsz : size ≤ 140737488355328)
    (IH : SymOK enc T ix g cb blk off cap size w0 N) (a m b : Nat) (d : Array α) (w : World) (hN : b - a ≤ N + 1) (hds : d.size = size) (S : SW enc w0 blk off d w) (ham : a + 1 < m) (hmb : m + 1 < b) (hb : b ≤ size) (hH : Halves T ix d a m b) :
    Calls Tryz.prog 125 #[.slice (some ⟨blk, off, none⟩) size cap, .int .i64 a, .int .i64 m, .int .i64 b, .func (.func g) #[] cb] w fun e w' =>
      e = .returned (.tuple #[]) ∧ Aside (∃ d', Merged T d d' a b ∧ SW enc w0 blk off d' w') := by
  have mixed := mixedP
  have hcl0 := R.hO.cells
  simp only [Value.cells] at hcl0
  have hst := R.hO.store Tryz.prog
  have eg := C.eg
  have S0 : Aside (SW enc w0 blk off d w) := S
  have HT : Aside _ := C.ord.trans
  have HC : Aside _ := C
  have HH : Aside _ := hH
  have HI : Aside _ := IH
  have HD : Aside (d.size = size) := hds
  have HS : Aside (d0.size = size) := hs
  have ama : ((m : Int) - (a : Int) == 1) = false := by rw [beq_eq_false_iff_ne]; omega
  have amb : ((b : Int) - (m : Int) == 1) = false := by rw [beq_eq_false_iff_ne]; omega
  clear C S hH IH hds hs
  obtain ⟨mid, hmid⟩ : ∃ q : Nat, q = (a + b) / 2 := ⟨_, rfl⟩
  have HMz : Aside (((a : Int) + (b : Int)) / 2 = (mid : Int)) := by show _ = _; omega
  have md1 : 2 * mid ≤ a + b := by omega
  have md2 : a + b ≤ 2 * mid + 1 := by omega
  clear hmid
  go_enter Tryz.func125, Tryz.ntmps125
  go_upto_if 140 with fail
  rw [HMz.out]
  clear HMz
  go_cut [20, 21] (fun s20 s21 wx => ∃ s0 r0 : Nat, s20 = .int .i64 s0 ∧ s21 = .int .i64 r0 ∧ a ≤ s0 ∧ s0 ≤ r0 ∧ r0 ≤ m ∧ m + r0 ≤ mid + m ∧ mid + m ≤ b + s0 ∧ Aside (s0 = a ∨ mid + m = b + s0) ∧ Aside (r0 = m ∨ r0 = mid) ∧ Aside (SW enc w0 blk off d wx))
  case first =>
    as_aux_lemma =>
    by_cases hc : mid < m
    · have hcz : (mid : Int) < (m : Int) := by omega
      go_wp2
      go_meet
      case rel => exact ⟨mid + m - b, mid, by first | go_num | (congr 1; omega), rfl, by omega, by omega, by omega, by omega, by omega, Or.inr (by omega), Or.inr rfl, S0⟩
    · have hcz : ¬ (mid : Int) < (m : Int) := by omega
      go_wp2
      go_meet
      case rel => exact ⟨a, m, rfl, rfl, by omega, by omega, by omega, by omega, by omega, Or.inl rfl, Or.inl rfl, S0⟩
  case rest =>
    as_aux_lemma =>
    clear S0
    obtain ⟨s0, r0, rfl, rfl, h1, h2, h3, h4, h5, E1, E2, S0⟩ := hcut
    go_wp2
    go_loopg [20, 21] (r0 - s0) (fun g1 vs vr wr => ∃ s r : Nat, vs = .int .i64 s ∧ vr = .int .i64 r ∧ s0 ≤ s ∧ s ≤ r ∧ r ≤ r0 ∧ r - s ≤ g1 ∧ Aside (s0 < s → T d[s - 1]! d[mid + m - s]!) ∧ Aside (r < r0 → T d[mid + m - 1 - r]! d[r]!) ∧ Aside (SW enc w0 blk off d wr))
    case atStart => exact ⟨s0, r0, rfl, rfl, Nat.le_refl _, h2, Nat.le_refl _, Nat.le_refl _, fun h => absurd h (Nat.lt_irrefl _), fun h => absurd h (Nat.lt_irrefl _), S0⟩
    case round =>
      clear S0
      obtain ⟨s, r, rfl, rfl, g1, g2, g3, g4, LO, UP, S1⟩ := hrel
      by_cases hlt : s < r
      · have hltz : (s : Int) < (r : Int) := by omega
        go_wp2_with fail
        obtain ⟨c, hh⟩ : ∃ h : Nat, h = (s + r) / 2 := ⟨_, rfl⟩
        have hhz : ((s : Int) + (r : Int)) / 2 = (c : Int) := by omega
        have c1 : s ≤ c := by omega
        have c2 : c < r := by omega
        rw [hhz]
        clear hh hhz
        obtain ⟨q, hq⟩ : ∃ q : Nat, q = mid + m - 1 - c := ⟨_, rfl⟩
        have q1 : m ≤ q := by omega
        have q2 : q < b := by omega
        have HQ : Aside (q = mid + m - 1 - c) := hq
        have eq : ((mid : Int) + (m : Int) - 1 - (c : Int)).toNat = q := by omega
        have pq : (0 : Int) ≤ (mid : Int) + (m : Int) - 1 - (c : Int) := by omega
        have pq2 : (c : Int) ≤ (mid : Int) + (m : Int) - 1 := by omega
        have bq : (mid : Int) + (m : Int) - 1 - (c : Int) < (size : Int) := by omega
        have wq : IntKind.i64.wrap ((mid : Int) + (m : Int) - 1 - (c : Int)) = (mid : Int) + (m : Int) - 1 - (c : Int) := by rw [IntKind.wrap_i64]; omega
        obtain ⟨x, hx⟩ : ∃ x, x = d[q]! := ⟨_, rfl⟩
        obtain ⟨y, hy⟩ : ∃ x, x = d[c]! := ⟨_, rfl⟩
        have HXY : Aside (ix y < ix x) := by rw [Aside, hx, hy]; exact HH.out.cross c q (by omega) (by omega) (by omega) (by omega)
        have HX1 : Aside (x = d[q]!) := hx
        have HY1 : Aside (y = d[c]!) := hy
        have la := S1.out.cl R (HD.out.trans HS.out.symm) q (by rw [HD.out]; omega)
        have lb := S1.out.cl R (HD.out.trans HS.out.symm) c (by rw [HD.out]; omega)
        rw [← hx] at la
        rw [← hy] at lb
        have hc := S1.out.cmp HC.out.hc (HD.out.trans HS.out.symm) x y
        have pb : (c : Int) < (size : Int) := by omega
        clear hx hy hq
        by_cases hv : cf x y < 0
        · as_aux_lemma =>
          have hd : decide (cf x y < 0) = true := decide_eq_true hv
          have HV : Aside (cf x y < 0) := hv
          clear hv
          go_quiet_grown (first | (go_at_fn g; refine Calls.grown_of (hc _ _)))
          have S2 : Aside (SW enc w0 blk off d (grow (wr.drewN nq) osq)) := S1.out.grown nq osq
          clear la lb hc S1
          generalize grow (wr.drewN nq) osq = w2 at S2 ⊢
          clear nq osq eq wq
          go_wp2
          go_roundg (c - s)
          case measure => omega
          case rel =>
            have t : T d[q]! d[c]! := by rw [← HX1.out, ← HY1.out]; exact (HC.out.yes y x HXY.out).1 HV.out
            rw [HQ.out] at t
            exact ⟨s, c, rfl, rfl, g1, c1, by omega, Nat.le_refl _, LO, fun _ => t, S2⟩
        · as_aux_lemma =>
          have hd : decide (cf x y < 0) = false := decide_eq_false hv
          have HV : Aside (¬ cf x y < 0) := hv
          clear hv
          go_quiet_grown (first | (go_at_fn g; refine Calls.grown_of (hc _ _)))
          have S2 : Aside (SW enc w0 blk off d (grow (wr.drewN nq) osq)) := S1.out.grown nq osq
          clear la lb hc S1
          generalize grow (wr.drewN nq) osq = w2 at S2 ⊢
          clear nq osq eq wq
          go_wp2
          go_roundg (r - (c + 1))
          case measure => omega
          case rel =>
            have t : T d[c]! d[q]! := by rw [← HX1.out, ← HY1.out]; exact HC.out.no y x HXY.out (by have := HV.out; omega)
            rw [HQ.out] at t
            exact ⟨c + 1, r, by go_num, rfl, by omega, by omega, g3, Nat.le_refl _, fun _ => by rw [show c + 1 - 1 = c by omega, show mid + m - (c + 1) = mid + m - 1 - c by omega]; exact t, UP, S2⟩
      · as_aux_lemma =>
        have hltz : ¬ (s : Int) < (r : Int) := by omega
        obtain rfl : s = r := by omega
        obtain ⟨e, he⟩ : ∃ e : Nat, e = mid + m - s := ⟨_, rfl⟩
        have HEz : Aside ((mid : Int) + (m : Int) - (s : Int) = (e : Int)) := by show _ = _; omega
        have e1 : m ≤ e := by omega
        have e2 : e ≤ b := by omega
        have HE : Aside (s + (e - m) = mid) := by show _ = _; omega
        have HA : Aside (a < s → e < b → T d[s - 1]! d[e]!) := fun k1 k2 => by
          by_cases c : s0 < s
          · rw [he]; exact LO.out c
          · rcases E1.out with k | k <;> omega
        have HB : Aside (s < m → m < e → T d[e - 1]! d[s]!) := fun k1 k2 => by
          by_cases c : s < r0
          · rw [show e - 1 = mid + m - 1 - s by omega]; exact UP.out c
          · rcases E2.out with k | k <;> omega
        clear E1 E2 LO UP he
        go_upto_region 39 with fail
        rw [HEz.out]
        clear HEz
        go_cut [185] (fun v wx => ∃ bb : Bool, v = .bool bb ∧ Aside (bb = true ↔ (s < m ∧ m < e)) ∧ Aside (SW enc w0 blk off d wx))
        case first =>
          as_aux_lemma =>
          by_cases hc : s < m
          · have hcz : (s : Int) < (m : Int) := by omega
            by_cases hc2 : m < e
            · have hcz2 : (m : Int) < (e : Int) := by omega
              go_wp2
              go_meet
              case rel => exact ⟨true, rfl, ⟨fun _ => ⟨hc, hc2⟩, fun _ => rfl⟩, S1⟩
            · have hcz2 : ¬ (m : Int) < (e : Int) := by omega
              go_wp2
              go_meet
              case rel => exact ⟨false, rfl, ⟨fun h => by simp at h, fun h => absurd h.2 hc2⟩, S1⟩
          · have hcz : ¬ (s : Int) < (m : Int) := by omega
            go_wp2
            go_meet
            case rel => exact ⟨false, rfl, ⟨fun h => by simp at h, fun h => absurd h.1 hc⟩, S1⟩
        case rest =>
        as_aux_lemma =>
        clear S1
        obtain ⟨bb, rfl, HB1, S1⟩ := hcut
        go_upto_if 185 with fail
        go_cut [] (fun wx => Aside (∃ d1, Rot d d1 s m e ∧ SW enc w0 blk off d1 wx))
        case first =>
          as_aux_lemma =>
          cases bb with
          | true =>
            obtain ⟨hc, hc2⟩ := HB1.out.1 rfl
            go_wp2_with fail
            have hrot := rotate_s enc (.func (.func g) #[] cb) blk off cap s m e d0 d w0 wc R (HS.out.trans HD.out.symm) S1.out hc hc2 (by rw [HD.out]; omega) (by rw [HD.out]; omega)
            rw [HD.out] at hrot
            refine hrot.mono ?_
            rintro e' w' ⟨rfl, hq⟩
            go_wp2
            go_meet
            case rel => exact hq
          | false =>
            go_wp2
            go_meet
            case rel =>
              have hn : ¬ (s < m ∧ m < e) := fun h => by have := HB1.out.2 h; simp at this
              by_cases hc : s = m
              · subst hc; exact ⟨d, Rot.self_right _ _ _, S1.out⟩
              · obtain rfl : e = m := by omega
                exact ⟨d, Rot.self_left _ _ _, S1.out⟩
        case rest =>
        as_aux_lemma =>
        clear S1 HB1
        obtain ⟨d1, hr1, S2⟩ := hcut.out
        have HR1 : Aside _ := hr1
        have S2' : Aside _ := S2
        have Q : Aside (Quarters T ix d1 a s mid e b) := quarters HT.out HH.out (by omega) (by omega) e1 e2 HE.out hr1 HA.out HB.out
        have HD1 : Aside (d1.size = size) := hr1.1.trans HD.out
        clear hcut hr1 S2 HA HB
        go_upto_region 41 with fail
        go_cut [199] (fun v wx => ∃ bb : Bool, v = .bool bb ∧ Aside (bb = true ↔ (a < s ∧ s < mid)) ∧ Aside (SW enc w0 blk off d1 wx))
        case first =>
          as_aux_lemma =>
          by_cases hc : a < s
          · have hcz : (a : Int) < (s : Int) := by omega
            by_cases hc2 : s < mid
            · have hcz2 : (s : Int) < (mid : Int) := by omega
              go_wp2
              go_meet
              case rel => exact ⟨true, rfl, ⟨fun _ => ⟨hc, hc2⟩, fun _ => rfl⟩, S2'⟩
            · have hcz2 : ¬ (s : Int) < (mid : Int) := by omega
              go_wp2
              go_meet
              case rel => exact ⟨false, rfl, ⟨fun h => by simp at h, fun h => absurd h.2 hc2⟩, S2'⟩
          · have hcz : ¬ (a : Int) < (s : Int) := by omega
            go_wp2
            go_meet
            case rel => exact ⟨false, rfl, ⟨fun h => by simp at h, fun h => absurd h.1 hc⟩, S2'⟩
        case rest =>
        as_aux_lemma =>
        clear S2'
        obtain ⟨bb2, rfl, HB1, S2'⟩ := hcut
        go_upto_if 199 with fail
        go_cut [] (fun wx => Aside (∃ d2, Merged T d1 d2 a mid ∧ SW enc w0 blk off d2 wx))
        case first =>
          as_aux_lemma =>
          cases bb2 with
          | true =>
            obtain ⟨hc, hc2⟩ := HB1.out.1 rfl
            go_wp2_with fail
            refine (HI.out a s mid d1 _ (by omega) HD1.out S2'.out hc hc2 (by omega) Q.out.lo).mono ?_
            rintro e' w' ⟨rfl, hq⟩
            go_wp2
            go_meet
            case rel => exact hq
          | false =>
            go_wp2
            go_meet
            case rel =>
              have hn : ¬ (a < s ∧ s < mid) := fun h => by have := HB1.out.2 h; simp at this
              by_cases hc : a < s
              · exact ⟨d1, Merged.refl (Q.out.lo.right_none (by omega)), S2'.out⟩
              · exact ⟨d1, Merged.refl (Q.out.lo.left_none (by omega) (by omega)), S2'.out⟩
        case rest =>
        as_aux_lemma =>
        clear S2' HB1
        obtain ⟨d2, hm2, S2⟩ := hcut.out
        have HM2 : Aside _ := hm2
        have S2' : Aside _ := S2
        have HD2 : Aside (d2.size = size) := hm2.size.trans HD1.out
        have HH2 : Aside (Halves T ix d2 mid e b) := by
          have q := Q.out.hi
          have me : mid ≤ e := by have := HE.out; omega
          have k : ∀ p, mid ≤ p → d2[p]! = d1[p]! := fun p hp => hm2.out p (Or.inr hp)
          exact ⟨fun p p' k1 k2 k3 => by rw [k p k1, k p' (by omega)]; exact q.s1 p p' k1 k2 k3, fun p p' k1 k2 k3 => by rw [k p (by omega), k p' (by omega)]; exact q.s2 p p' k1 k2 k3, fun p p' k1 k2 k3 k4 => by rw [k p k1, k p' (by omega)]; exact q.cross p p' k1 k2 k3 k4⟩
        clear hcut hm2 S2
        by_cases hc : mid < e
        · have hcz : (mid : Int) < (e : Int) := by omega
          by_cases hc2 : e < b
          · have hcz2 : (e : Int) < (b : Int) := by omega
            go_wp2_with fail
            refine (HI.out mid e b d2 _ (by omega) HD2.out S2'.out hc hc2 hb HH2.out).mono ?_
            rintro e' w' ⟨rfl, hq⟩
            go_wp2
            go_end0
            refine ⟨rfl, ?_⟩
            obtain ⟨d3, hm3, S3⟩ := hq.out
            exact ⟨d3, merged_of (by omega) (by omega) e1 e2 HE.out HR1.out Q.out HM2.out hm3, S3⟩
          · have hcz2 : ¬ (e : Int) < (b : Int) := by omega
            go_wp2
            go_end0
            exact ⟨rfl, d2, merged_of (by omega) (by omega) e1 e2 HE.out HR1.out Q.out HM2.out (Merged.refl (HH2.out.right_none (by omega))), S2'.out⟩
        · have hcz : ¬ (mid : Int) < (e : Int) := by omega
          go_wp2
          go_end0
          exact ⟨rfl, d2, merged_of (by omega) (by omega) e1 e2 HE.out HR1.out Q.out HM2.out (Merged.refl (HH2.out.left_none (by omega) (by have := HE.out; omega))), S2'.out⟩
theorem symMerge_s {enc : α → Value} {T : α → α → Prop} {ix : α → Nat} {cf : α → α → Int} {g : Nat} {cb : Array Value} (blk off cap size : Nat) (d0 : Array α) (w0 : World) (C : CmpOK enc T ix cf g cb blk off d0.size w0) (R : Row1 enc w0 blk off d0) (hs : d0.size = size) (hsz : size ≤ 140737488355328) (N : Nat) :
    SymOK enc T ix g cb blk off cap size w0 N := by
  induction N with
  | zero => intro a m b d w hN _ _ h1 h2 _ _; omega
  | succ N ih =>
    intro a m b d w hN hds S h1 h2 hb hH
    by_cases c1 : a + 1 = m
    · have := symMerge_one blk off cap a m b d0 d w0 w C R (hs.trans hds.symm) S c1 h2 (by rw [hds]; exact hb) (by rw [hds]; exact hsz) hH
      rw [hds] at this
      exact this
    · by_cases c2 : m + 1 = b
      · have := symMerge_last blk off cap a m b d0 d w0 w C R (hs.trans hds.symm) S (by omega) c2 (by rw [hds]; exact hb) (by rw [hds]; exact hsz) hH
        rw [hds] at this
        exact this
      · exact symMerge_many blk off cap size N d0 w0 C R hs hsz ih a m b d w hN hds S (by omega) (by omega) hb hH
end Go.Proofs.YtfnekbfcndkjeaaGreatDoor
