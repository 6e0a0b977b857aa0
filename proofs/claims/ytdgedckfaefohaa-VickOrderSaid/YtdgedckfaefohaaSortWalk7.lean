/- The library's stable sort of ints by a comparison: the whole of it. -/
import Derived.Test.YtdgedckfaefohaaSortWalk6
import Derived.Test.YtdgedckfaefohaaSortBlocks
namespace Go.Proofs.Ytdgedckfaefohaa
open Go.RowKit Go.Sort
open Go.Proofs.Ytdgedckfaefohaa.Srt
variable {α : Type} [Inhabited α]

theorem aside {p : Prop} (h : p) : Aside p := h

set_option maxHeartbeats 8000000 in
set_option maxRecDepth 100000 in
theorem stable_s {enc : α → Value} {T : α → α → Prop} {ix : α → Nat} {cf : α → α → Int} {g : Nat} {cb : Array Value} (blk off cap n : Nat) (d0 d : Array α) (w0 w : World) (C : CmpOK enc T ix cf g cb blk off d0.size w0) (R : Row1 enc w0 blk off d0) (hs : d0.size = n) (hds : d.size = n) (S : SW enc w0 blk off d w)
    (hsz : n ≤ 140737488355328) (hid : ∀ p, p < n → ix d[p]! = p) :
    Calls Try.prog 62 #[.slice (some ⟨blk, off, none⟩) n cap, .int .i64 n, .func (.func g) #[] cb] w fun e w' =>
      e = .returned (.tuple #[]) ∧ Aside (∃ d', d'.size = n ∧ Srt.Good T ix d' 0 n ∧ SW enc w0 blk off d' w') := by
  have S0 : Aside (SW enc w0 blk off d w) := S
  have HC : Aside _ := C
  have HI : Aside _ := hid
  have HD : Aside (d.size = n) := hds
  have HS : Aside (d0.size = n) := hs
  have SYM : Aside _ := symMerge_s blk off cap n d0 w0 C R hs hsz n
  clear C S hid hds hs
  go_enter Try.func62, Try.ntmps62
  go_wp2
  go_loopg [7, 8] n (fun g1 va vb wr => ∃ (q a b : Nat) (dk : Array α), va = .int .i64 a ∧ vb = .int .i64 b ∧ Aside (a = 20 * q) ∧ b ≤ a + 20 ∧ a + 20 ≤ b ∧ a ≤ n ∧ n - a ≤ g1 ∧ Aside (dk.size = n) ∧
    Aside (∀ k, k < q → Srt.Good T ix dk (20 * k) (20 * k + 20)) ∧ Aside (∀ p, a ≤ p → p < n → ix dk[p]! = p) ∧ Aside (SW enc w0 blk off dk wr))
  case atStart => exact ⟨0, 0, 20, d, rfl, rfl, rfl, by omega, by omega, by omega, by omega, HD, fun k hk => by omega, fun p _ h => HI.out p h, S0⟩
  case round =>
    clear S0
    obtain ⟨q, a, b, dk, rfl, rfl, HQ, b1, b2, b3, hg, HK, HG, HP, S1⟩ := hrel
    by_cases hlt : b ≤ n
    · as_aux_lemma =>
      have hltz : (b : Int) ≤ (n : Int) := by omega
      go_wp2_with fail
      have hin := insertion_s blk off cap a b d0 dk w0 wr HC.out R (HS.out.trans HK.out.symm) S1.out (by omega) (by rw [HK.out]; exact hlt) (by rw [HK.out]; exact hsz) (fun p q h1 h2 h3 => (own_of_same (a := a) (b := b) (fun p h1 h2 => HP.out p h1 (by omega))).2 p q h1 h2 h3)
      rw [HK.out] at hin
      refine hin.mono ?_
      rintro e' w' ⟨rfl, hq⟩
      clear S1 hin
      go_wp2
      obtain ⟨d', hm, S2⟩ := hq.out
      go_roundg (n - b)
      case measure => omega
      case rel =>
        have hba : b = a + 20 := by omega
        refine ⟨q + 1, b, b + 20, d', rfl, by go_num, ?_, by omega, by omega, hlt, Nat.le_refl _, hm.size.trans HK.out, fun k hk => ?_, fun p h1 h2 => ?_, S2⟩
        · show b = 20 * (q + 1)
          have := HQ.out; omega
        · have h := HQ.out
          by_cases c : k = q
          · subst c
            rw [← h, ← hba]
            exact Srt.Good.merged (own_of_same (fun p h1 h2 => HP.out p h1 (by omega))).1 hm
          · exact (HG.out k (by omega)).kept hm (Or.inl (by omega))
        · rw [hm.out p (Or.inr h1)]
          exact HP.out p (by omega) h2
    · as_aux_lemma =>
      have hltz : ¬ (b : Int) ≤ (n : Int) := by omega
      go_wp2_with fail
      have hin := insertion_s blk off cap a n d0 dk w0 wr HC.out R (HS.out.trans HK.out.symm) S1.out b3 (by rw [HK.out]; exact Nat.le_refl _) (by rw [HK.out]; exact hsz) (fun p q h1 h2 h3 => (own_of_same (a := a) (b := n) (fun p h1 h2 => HP.out p h1 h2)).2 p q h1 h2 h3)
      rw [HK.out] at hin
      refine hin.mono ?_
      rintro e' w' ⟨rfl, hq⟩
      clear S1 hin
      obtain ⟨d1, hm, S2⟩ := hq.out
      have HK1 : Aside (d1.size = n) := hm.size.trans HK.out
      have HB : Aside (Blocks T ix d1 20 n) := by
        have h := HQ.out
        refine Blocks.of20 (q := q) (fun k hk => (HG.out k hk).kept hm (Or.inl (by omega))) (by omega) (by omega) ?_
        rw [← h]
        exact Srt.Good.merged (own_of_same (fun p h1 h2 => HP.out p h1 h2)).1 hm
      have S3 : Aside _ := S2
      clear HK HG HP HQ hq hm S2
      go_wp2
      go_loopg [6] n (fun g1 vs wr => ∃ (bs : Nat) (dk : Array α), vs = .int .i64 bs ∧ 1 ≤ bs ∧ bs ≤ 281474976710676 ∧ n - bs ≤ g1 ∧ Aside (dk.size = n) ∧ Aside (Blocks T ix dk bs n) ∧ Aside (SW enc w0 blk off dk wr))
      case atStart => exact ⟨20, d1, rfl, by omega, by omega, by omega, HK1, HB, S3⟩
      case round =>
        clear HK1 HB S3
        obtain ⟨bs, dk, rfl, hb1, hb2, hg2, HK, HB, S1⟩ := hrel
        by_cases hlt2 : bs < n
        · have hltz2 : (bs : Int) < (n : Int) := by omega
          go_wp2
          go_loopg [7, 8] n (fun g3 va vb wr2 => ∃ (q a b : Nat) (dj : Array α), va = .int .i64 a ∧ vb = .int .i64 b ∧ Aside (a = q * (2 * bs)) ∧ b ≤ a + 2 * bs ∧ a + 2 * bs ≤ b ∧ a ≤ n ∧ n - a ≤ g3 ∧ Aside (dj.size = n) ∧ Aside (Pairs T ix dj bs n q) ∧ Aside (SW enc w0 blk off dj wr2))
          case atStart => exact ⟨0, 0, 2 * bs, dk, rfl, by go_num, (Nat.zero_mul _).symm, by omega, by omega, by omega, by omega, HK, Pairs.start HB.out, S1⟩
          case round =>
            clear HK HB S1
            obtain ⟨q, a, b, dj, rfl, rfl, HQ, c1, c2, c3, hg3, HK, HP, S1⟩ := hrel
            by_cases hlt3 : b ≤ n
            · as_aux_lemma =>
              have hltz3 : (b : Int) ≤ (n : Int) := by omega
              go_wp2_with fail
              have hba : b = a + 2 * bs := by omega
              have hH : Halves T ix dj a (a + bs) b := by
                have g1 := HP.out.first HQ.out (by omega)
                have g2 := HP.out.second HQ.out
                rw [Nat.min_eq_left (by omega), ← hba] at g2
                exact g1.halves g2
              have hca := SYM.out a (a + bs) b dj wr (by omega) HK.out S1.out (by omega) (by omega) hlt3 hH
              rw [show ((a + bs : Nat) : Int) = (a : Int) + (bs : Int) by omega] at hca
              refine hca.mono ?_
              rintro e' w' ⟨rfl, hq⟩
              clear S1 hca
              have HBA : Aside _ := hba
              clear hba
              go_wp2
              obtain ⟨d', hm, S2⟩ := hq.out
              go_roundg (n - b)
              case measure => omega
              case rel =>
                refine ⟨q + 1, b, b + 2 * bs, d', rfl, by go_num, ?_, by omega, by omega, hlt3, Nat.le_refl _, hm.size.trans HK.out, ?_, S2⟩
                · show b = (q + 1) * (2 * bs)
                  rw [HBA.out, HQ.out]
                  exact (Nat.succ_mul _ _).symm
                · rw [HBA.out] at hm
                  exact HP.out.step HQ.out (by omega) hm
            · as_aux_lemma =>
              have hltz3 : ¬ (b : Int) ≤ (n : Int) := by omega
              by_cases hlt4 : a + bs < n
              · have hltz4 : (a : Int) + (bs : Int) < (n : Int) := by omega
                go_wp2_with fail
                have hH : Halves T ix dj a (a + bs) n := by
                  have g1 := HP.out.first HQ.out (by omega)
                  have g2 := HP.out.second HQ.out
                  rw [Nat.min_eq_right (by omega)] at g2
                  exact g1.halves g2
                have hca := SYM.out a (a + bs) n dj wr (by omega) HK.out S1.out (by omega) hlt4 (Nat.le_refl _) hH
                rw [show ((a + bs : Nat) : Int) = (a : Int) + (bs : Int) by omega] at hca
                refine hca.mono ?_
                rintro e' w' ⟨rfl, hq⟩
                clear S1 hca
                go_wp2
                obtain ⟨d', hm, S2⟩ := hq.out
                go_roundg (n - 2 * bs)
                case measure => omega
                case rel => exact ⟨2 * bs, d', by first | go_num | (congr 1; omega), by omega, by omega, Nat.le_refl _, hm.size.trans HK.out, HP.out.finish HQ.out (by omega) hlt4 hm, S2⟩
              · have hltz4 : ¬ (a : Int) + (bs : Int) < (n : Int) := by omega
                go_wp2
                go_roundg (n - 2 * bs)
                case measure => omega
                case rel => exact ⟨2 * bs, dj, by first | go_num | (congr 1; omega), by omega, by omega, Nat.le_refl _, HK, HP.out.finish_none HQ.out (by omega) c3 (by omega), S1⟩
        · have hltz2 : ¬ (bs : Int) < (n : Int) := by omega
          go_wp2
          go_end0
          exact ⟨rfl, dk, HK.out, HB.out.all (by omega), S1.out⟩

set_option maxHeartbeats 1000000 in
/-- slices.SortStableFunc at a slice whose cells are in their first order. -/
theorem sortStable_s {enc : α → Value} {T : α → α → Prop} {ix : α → Nat} {cf : α → α → Int} {g : Nat} {cb : Array Value} (blk off cap n : Nat) (d : Array α) (w : World) (C : CmpOK enc T ix cf g cb blk off d.size w) (R : Row1 enc w blk off d) (hds : d.size = n)
    (hsz : n ≤ 140737488355328) (hid : ∀ p, p < n → ix d[p]! = p) :
    Calls Try.prog 42 #[.slice (some ⟨blk, off, none⟩) n cap, .func (.func g) #[] cb] w fun e w' =>
      e = .returned (.tuple #[]) ∧ Aside (∃ d', d'.size = n ∧ Srt.Good T ix d' 0 n ∧ SW enc w blk off d' w') := by
  have H := stable_s blk off cap n d d w w C R hds hds (SW.start R.hH) hsz hid
  have HH := aside H
  clear H C R hid hds
  go_enter Try.func42, Try.ntmps42
  go_wp2_with fail
  refine HH.out.mono ?_
  rintro e' w' ⟨rfl, hq⟩
  go_wp2
  go_end0
  exact ⟨rfl, hq⟩

end Go.Proofs.Ytdgedckfaefohaa
