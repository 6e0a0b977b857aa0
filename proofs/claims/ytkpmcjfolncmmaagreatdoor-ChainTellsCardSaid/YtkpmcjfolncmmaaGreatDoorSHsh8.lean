/- append(s, y) at a step of a region that draws its order, where the elder row is read again. -/
import Derived.Test.YtkpmcjfolncmmaaGreatDoorSOwnG
import Derived.ArgAppend
import Derived.Deep.DeepAppendRoom
import Derived.Test.YtkpmcjfolncmmaaGreatDoorSHsh1
import Derived.Test.YtkpmcjfolncmmaaGreatDoorSSha2
import Derived.Deep.RegionHeld3
import Derived.Deep.RegionWith
import Derived.BigQuiet
import Derived.StillTailTactics
import Derived.Test.YtkpmcjfolncmmaaGreatDoorSRec2
import Derived.Laws.CopyOwn
import Derived.Laws.Tables
import Derived.Test.YtkpmcjfolncmmaaGreatDoorSHsh6
set_option linter.all false
namespace Go.Proofs.YtkpmcjfolncmmaaGreatDoor
open Go.RowKit
theorem run_append_keep (ty S E : TypeId) {w : World} (z : Value) (size bytes : Nat) (hS : Tryz.prog.underlying S = some (.slice E)) (hE : (Tryz.prog.info? E).map (fun i => (i.zero, i.size, i.bytes)) = some (some z, size, bytes)) (hzs : z.cells.size = size) (hsz : 0 < size)
    (base : Nat) (g0 n cap : Nat) (h0 : 0 < n) (xs : List Value) (hown : w.ownsRow base E size (.slice (some ⟨g0, 0, none⟩) n cap) n xs) (g : Nat) (y : List Value) (hy1 : y.length = size) (hone : ∀ u ∈ y, u.oneCell' = true)
    (hy : ∀ j u, y[j]? = some u → w.cell? ⟨g, j, none⟩ = some u)
    (hlen : n + 1 ≤ maxLen) (hby : (n + 1) * bytes ≤ 140737488355328) (hbase : base ≤ w.heap.size) :
    ∃ v' w', (Builtin.append_ #[S, S] ty #[.slice (some ⟨g0, 0, none⟩) n cap, .slice (some ⟨g, 0, none⟩) 1 1]).run Tryz.prog w = .ok v' w' ∧ w'.ownsRow base E size v' (n + 1) (xs ++ y) ∧ w.grownBy w' (some g0) ∧ ∀ j u, xs[j]? = some u → w'.cell? ⟨g0, j, none⟩ = some u := by
  obtain ⟨i0, hi, hz0, hz1, hz2⟩ := info_parts hE
  have hadd : ∀ j, (⟨g, 0, none⟩ : Addr).add j = ⟨g, j, none⟩ := fun j => by simp only [Addr.add]; split <;> simp_all
  have hadd0 : ∀ j, (⟨g0, 0, none⟩ : Addr).add j = ⟨g0, j, none⟩ := fun j => by simp only [Addr.add]; split <;> simp_all
  have hnews : ∀ j u, y[j]? = some u → w.cell? ((⟨g, 0, none⟩ : Addr).add j) = some u := fun j u hu => by rw [hadd]; exact hy j u hu
  obtain ⟨a0, c0, e0, hc0, hx0⟩ := ownsRow_form hown
  obtain ⟨g1, e1, hg1, hgl, hcell⟩ := hx0 h0
  obtain ⟨e2, _, e3⟩ := Value.slice.inj e0
  rw [e1] at e2
  have e4 : g0 = g1 := congrArg Addr.block (Option.some.inj e2)
  subst e4
  by_cases hroom : n + 1 ≤ cap
  · obtain ⟨w', hr, h2, h3⟩ := run_append_own_spare (P := Tryz.prog) w base S ty E i0 size hS hi hz1 g0 n cap xs hown ⟨g, 0, none⟩ 1 1 y (by rw [Nat.one_mul]; exact hy1) hnews hone hroom
    refine ⟨_, w', hr, h2, h3, fun j u hu => ?_⟩
    obtain ⟨a', c', e', _, hx'⟩ := ownsRow_form h2
    obtain ⟨g', ea, _, _, hj⟩ := hx' (by omega)
    obtain ⟨e4, _, _⟩ := Value.slice.inj e'
    rw [ea] at e4
    have e5 : g0 = g' := congrArg Addr.block (Option.some.inj e4)
    subst e5
    refine hj j u ?_
    rw [List.getElem?_append_left (List.getElem?_eq_some_iff.1 hu).1]
    exact hu
  · obtain ⟨v', w', hr, h2, h3⟩ := run_append_arg_grows (P := Tryz.prog) w S ty E i0 z size bytes hS hi hz0 hz1 hz2 hzs hsz ⟨g0, 0, none⟩ n cap xs hown.1 (fun j u hu => by rw [hadd0]; exact hcell j u hu) ⟨g, 0, none⟩ 1 1 y (by rw [Nat.one_mul]; exact hy1) hnews (by omega) hlen hby
    refine ⟨v', w', hr, ownsRow_mono h2 hbase, ⟨h3.os, h3.tape, h3.output, h3.size, fun k hk _ => h3.block k hk (by simp)⟩, fun j u hu => ?_⟩
    rw [World.cell?_of_block (w := w) (a := ⟨g0, j, none⟩) (h3.block g0 hgl (by simp))]
    exact hcell j u hu
theorem step_append_keep {ops : Array Oper} {o : Oper} {a : Act} {K : Act → World → Prop} {Q : Exit → Act → World → Prop} {E' : Prop} {w : World} (hgd : o.guard = none) (s x : Operand) (S E : TypeId)
    (ho : o.op = .call { callee := .builtin .append, args := #[s, x], argTypes := #[S, S] })
    (z : Value) (size bytes : Nat) (hS : Tryz.prog.underlying S = some (.slice E)) (hE : (Tryz.prog.info? E).map (fun i => (i.zero, i.size, i.bytes)) = some (some z, size, bytes)) (hzs : z.cells.size = size) (hsz : 0 < size)
    (base : Nat) (g0 n cap : Nat) (h0 : 0 < n) (xs : List Value) (hs : a.eval s = .slice (some ⟨g0, 0, none⟩) n cap) (hown : w.ownsRow base E size (.slice (some ⟨g0, 0, none⟩) n cap) n xs) (g : Nat) (y : List Value) (hy1 : y.length = size) (hone : ∀ u ∈ y, u.oneCell' = true)
    (hx : a.eval x = .slice (some ⟨g, 0, none⟩) 1 1) (hy : ∀ j u, y[j]? = some u → w.cell? ⟨g, j, none⟩ = some u)
    (hlen : n + 1 ≤ maxLen) (hby : (n + 1) * bytes ≤ 140737488355328) (hbase : base ≤ w.heap.size)
    (h : ∀ v' w', w'.ownsRow base E size v' (n + 1) (xs ++ y) → w.grownBy w' (some g0) → (∀ j u, xs[j]? = some u → w'.cell? ⟨g0, j, none⟩ = some u) → K (a.put o.dst v') w') :
    if Region.wanted o (yielded ops a.tmps) = true then Oper.wp Tryz.prog o a w K Q else E' := by
  have hw : Region.wanted o (yielded ops a.tmps) = true := by simp [Region.wanted, hgd]
  rw [if_pos hw]
  obtain ⟨v', w', hr, h1, h2, h3⟩ := run_append_keep o.type S E z size bytes hS hE hzs hsz base g0 n cap h0 xs hown g y hy1 hone hy hlen hby hbase
  unfold Oper.wp execOp
  simp only [ho, resolve, invoke, builtin, Sem.run_bind, Sem.run_pure, Result.andThen_ok, List.map_toArray, List.map_cons, List.map_nil, hs, hx, hr]
  exact h v' w' h1 h2 h3
end Go.Proofs.YtkpmcjfolncmmaaGreatDoor
namespace Go.Proofs.YtkpmcjfolncmmaaGreatDoor
open Go.RowKit
def BlkAt (blk : ByteArray) (g lo : Nat) (w : World) : Prop := g < w.heap.size ∧ ∀ j, j < 64 → w.cell? ⟨g, lo + j, none⟩ = some (.int .u8 (byteOf blk j))
theorem BlkAt.on {blk : ByteArray} {g lo : Nat} {w w' : World} (h : BlkAt blk g lo w) (hb : Below w.heap.size w w') : BlkAt blk g lo w' :=
  ⟨Nat.lt_of_lt_of_le h.1 hb.size, fun j hj => (hb.cell (p := ⟨g, lo + j, none⟩) h.1).trans (h.2 j hj)⟩
theorem rr_any (x k : Int) (w : World) (hk : k = 6 ∨ k = 11 ∨ k = 25 ∨ k = 2 ∨ k = 13 ∨ k = 22) : Calls Tryz.prog 90 #[.int .u32 x, .int .u64 k] w fun e w' => e = .returned (.int .u32 (rotr k.natAbs x)) ∧ w = w' := by
  have sw : ∀ {k : Nat}, Calls Tryz.prog 90 #[.int .u32 x, .int .u64 k] w (fun e w' => e = .returned (.int .u32 (rotr k x)) ∧ w' = w) → Calls Tryz.prog 90 #[.int .u32 x, .int .u64 k] w (fun e w' => e = .returned (.int .u32 (rotr k x)) ∧ w = w') := fun h => h.mono fun _ _ ⟨a, b⟩ => ⟨a, b.symm⟩
  rcases hk with rfl | rfl | rfl | rfl | rfl | rfl
  · exact sw (rr_6 x w)
  · exact sw (rr_11 x w)
  · exact sw (rr_25 x w)
  · exact sw (rr_2 x w)
  · exact sw (rr_13 x w)
  · exact sw (rr_22 x w)
theorem wordsTo_snoc (B : Nat → Int) (t : Nat) : wordsTo B (t + 1) = wordsTo B t ++ [wd B t] := by
  have e : wordsTo B (t + 1) = wordsTo B t ++ [if t < 16 then beTo B t 4 else mixW (wordsTo B t)[t - 2]! (wordsTo B t)[t - 7]! (wordsTo B t)[t - 15]! (wordsTo B t)[t - 16]!] := rfl
  have h : wd B t = (if t < 16 then beTo B t 4 else mixW (wordsTo B t)[t - 2]! (wordsTo B t)[t - 7]! (wordsTo B t)[t - 15]! (wordsTo B t)[t - 16]!) := by
    rw [wd, e, getElem!_pos _ t (by simp [length_wordsTo]), List.getElem_append_right (by simp [length_wordsTo])]
    simp [length_wordsTo]
  rw [e, h]
theorem wordsTo_get? (B : Nat → Int) (t j : Nat) (hj : j < t) : (wordsTo B t)[j]? = some (wd B j) := by
  have hg := get_wordsTo B t j hj
  rw [getElem!_pos _ j (by rw [length_wordsTo]; exact hj)] at hg
  rw [List.getElem?_eq_getElem (by rw [length_wordsTo]; exact hj), hg]
theorem below_grownD {w w2 w3 : World} {o : Obj} {v : Value} {B : Nat} (hB : w.heap.size ≤ B) (h : Below w.heap.size w w2) (ho : ∀ j, v.ownBlock = some j → B ≤ j) (hg : (w2.alloc o).drew.grownBy w3 v.ownBlock) : Below w.heap.size w w3 := by
  have hk3 : Keeps (· < w.heap.size) w2 w3 := (keeps_of_new (new_trans (new_alloc _ _) (new_drew _)) _).trans (keeps_grown hg _ (fun j hj h => by have := ho j hj; omega))
  exact h.trans (hk3.below h.size)
def Four (g i0 i1 i2 i3 : Nat) (x0 x1 x2 x3 : Int) (w : World) : Prop := w.cell? ⟨g, i0, none⟩ = some (.int .u8 x0) ∧ w.cell? ⟨g, i1, none⟩ = some (.int .u8 x1) ∧ w.cell? ⟨g, i2, none⟩ = some (.int .u8 x2) ∧ w.cell? ⟨g, i3, none⟩ = some (.int .u8 x3)
theorem four_of {g i0 i1 i2 i3 : Nat} {x0 x1 x2 x3 : Int} {w : World} (h0 : w.cell? ⟨g, i0, none⟩ = some (.int .u8 x0)) (h1 : w.cell? ⟨g, i1, none⟩ = some (.int .u8 x1)) (h2 : w.cell? ⟨g, i2, none⟩ = some (.int .u8 x2)) (h3 : w.cell? ⟨g, i3, none⟩ = some (.int .u8 x3)) : Four g i0 i1 i2 i3 x0 x1 x2 x3 w := ⟨h0, h1, h2, h3⟩
theorem Four.keeps {g i0 i1 i2 i3 : Nat} {x0 x1 x2 x3 : Int} {w w' : World} {K : Nat → Prop} (h : Four g i0 i1 i2 i3 x0 x1 x2 x3 w) (hk : Keeps K w w') (hg : K g) : Four g i0 i1 i2 i3 x0 x1 x2 x3 w' :=
  ⟨cell_keeps h.1 hk hg, cell_keeps h.2.1 hk hg, cell_keeps h.2.2.1 hk hg, cell_keeps h.2.2.2 hk hg⟩
theorem Four.on {g i0 i1 i2 i3 : Nat} {x0 x1 x2 x3 : Int} {w w' : World} (h : Four g i0 i1 i2 i3 x0 x1 x2 x3 w) (hb : Below w.heap.size w w') : Four g i0 i1 i2 i3 x0 x1 x2 x3 w' := h.keeps (keeps_of_new hb (fun _ => True)) trivial
theorem Four.grown {g i0 i1 i2 i3 B : Nat} {x0 x1 x2 x3 : Int} {w w3 : World} {o : Obj} {v : Value} (h : Four g i0 i1 i2 i3 x0 x1 x2 x3 w) (hg : g < B) (ho : ∀ k, v.ownBlock = some k → B ≤ k) (hgr : (w.alloc o).drew.grownBy w3 v.ownBlock) : Four g i0 i1 i2 i3 x0 x1 x2 x3 w3 :=
  h.keeps (K := (· < B)) ((keeps_of_new (new_trans (new_alloc _ _) (new_drew _)) _).trans (keeps_grown hgr _ (fun j hj h => by have := ho j hj; omega))) hg
set_option maxHeartbeats 4000000 in
set_option maxRecDepth 100000 in
theorem words_any (blk : ByteArray) (g lo cap : Nat) (hcap : 64 ≤ cap) (w : World) (hb : BlkAt blk g lo w) : Calls Tryz.prog 89 #[.slice (some ⟨g, lo, none⟩) 64 cap] w (OwnPost .u32 133 (wordsTo (byteOf blk) 64) w) := by
  obtain ⟨B, hB⟩ : ∃ B, B = byteOf blk := ⟨_, rfl⟩
  have HB8 : Aside (∀ j, 0 ≤ B j ∧ B j ≤ 255) := by rw [Aside, hB]; exact byteOf_u8 blk
  have HBK : Aside (g < w.heap.size ∧ ∀ j, j < 64 → w.cell? ⟨g, lo + j, none⟩ = some (.int .u8 (B j))) := by rw [Aside, hB]; exact hb
  rw [← hB]
  clear hB hb
  have HCAP := aside hcap
  clear hcap
  have HOW : Aside (w.ownsRow w.heap.size 133 1 (.slice none 0 0) 0 ((wordsTo B 0).map (Value.int .u32))) := World.ownsRow_nil _ _ _ _
  go_enter Tryz.func89, Tryz.ntmps89
  go_wp2_with fail
  go_loopg [3, 4, 5, 6, 7, 8] 64 (fun gk v3 v4 v5 v6 v7 v8 wr => ∃ (t : Nat) (y : Value), y = v3 ∧ v4 = .int .i64 t ∧ t ≤ 64 ∧ 64 - t ≤ gk ∧ Aside (wr.ownsRow w.heap.size 133 1 y t ((wordsTo B t).map (Value.int .u32))) ∧ Aside (Below w.heap.size w wr))
  case atStart => exact ⟨0, _, rfl, rfl, by omega, by omega, HOW, Below.refl _ _⟩
  case round =>
    clear HOW
    obtain ⟨t, y, rfl, rfl, ht, hgk, HO, HB⟩ := hrel
    by_cases h64 : t < 64
    · have hz64 : (t : Int) < 64 := by omega
      have HM : Aside (64 - (t + 1) < gk ∧ t + 1 ≤ 64) := ⟨by omega, by omega⟩
      have hsw : w.heap.size ≤ wr.heap.size := HB.out.size
      clear hgk ht
      by_cases h16 : t < 16
      · have hz16 : (t : Int) < 16 := by omega
        have cB : ∀ j, j < 64 → wr.cell? ⟨g, lo + j, none⟩ = some (.int .u8 (B j)) := fun j hj => (HB.out.cell HBK.out.1).trans (HBK.out.2 j hj)
        have HWE : Aside (bits .or .u32 (bits .or .u32 (bits .or .u32 (B (4 * t) * 16777216 % 4294967296) (B (4 * t + 1) * 65536 % 4294967296)) (B (4 * t + 2) * 256 % 4294967296)) (B (4 * t + 3)) = wd B t) := by rw [Aside, wd_low B t h16]; exact word_eq B t HB8.out
        obtain ⟨p, hp⟩ : ∃ p, p = 4 * t := ⟨_, rfl⟩
        obtain ⟨q1, hq1⟩ : ∃ q, q = p + 1 := ⟨_, rfl⟩
        obtain ⟨q2, hq2⟩ : ∃ q, q = p + 2 := ⟨_, rfl⟩
        obtain ⟨q3, hq3⟩ : ∃ q, q = p + 3 := ⟨_, rfl⟩
        rw [← hp, ← hq1, ← hq2, ← hq3] at HWE
        have c0 := cB p (by omega)
        have c1 := cB q1 (by omega)
        have c2 := cB q2 (by omega)
        have c3 := cB q3 (by omega)
        have b0 := HB8.out p
        have b1 := HB8.out q1
        have b2 := HB8.out q2
        have b3 := HB8.out q3
        obtain ⟨x0, hx0⟩ : ∃ x, x = B p := ⟨_, rfl⟩
        obtain ⟨x1, hx1⟩ : ∃ x, x = B q1 := ⟨_, rfl⟩
        obtain ⟨x2, hx2⟩ : ∃ x, x = B q2 := ⟨_, rfl⟩
        obtain ⟨x3, hx3⟩ : ∃ x, x = B q3 := ⟨_, rfl⟩
        rw [← hx0] at c0 HWE b0
        rw [← hx1] at c1 HWE b1
        rw [← hx2] at c2 HWE b2
        rw [← hx3] at c3 HWE b3
        have ep : IntKind.i64.wrap (4 * (t : Int)) = (p : Int) := by rw [IntWalk.i64_in _ (by omega)]; omega
        have e1 : IntKind.i64.wrap ((p : Int) + 1) = (q1 : Int) := by rw [IntWalk.i64_in _ (by omega)]; omega
        have e2 : IntKind.i64.wrap ((p : Int) + 2) = (q2 : Int) := by rw [IntWalk.i64_in _ (by omega)]; omega
        have e3 : IntKind.i64.wrap ((p : Int) + 3) = (q3 : Int) := by rw [IntWalk.i64_in _ (by omega)]; omega
        have u0 : (p : Int) < 64 := by omega
        have u1 : (q1 : Int) < 64 := by omega
        have u2 : (q2 : Int) < 64 := by omega
        have u3 : (q3 : Int) < 64 := by omega
        have k0 : IntKind.u32.wrap x0 = x0 := by rw [IntKind.wrap_u32]; omega
        have k1 : IntKind.u32.wrap x1 = x1 := by rw [IntKind.wrap_u32]; omega
        have k2 : IntKind.u32.wrap x2 = x2 := by rw [IntKind.wrap_u32]; omega
        have k3 : IntKind.u32.wrap x3 = x3 := by rw [IntKind.wrap_u32]; omega
        clear hx0 hx1 hx2 hx3 hp hq1 hq2 hq3 b0 b1 b2 b3 cB
        go_upto_region 6 with fail
        have hgO : ∀ k, y.ownBlock = some k → w.heap.size ≤ k := ownBlock_ge HO.out
        have hgL : g < w.heap.size := HBK.out.1
        have h4 := four_of c0 c1 c2 c3
        go_region_held3 (fun W => W.cell? ⟨g, lo + p, none⟩ = some (.int .u8 x0) ∧ W.cell? ⟨g, lo + q1, none⟩ = some (.int .u8 x1) ∧ W.cell? ⟨g, lo + q2, none⟩ = some (.int .u8 x2) ∧ W.cell? ⟨g, lo + q3, none⟩ = some (.int .u8 x3)) (first | exact h43 | exact h4 | exact h4.on (new_alloc _ _) | exact h4.on (new_drew _) | exact h4.on (new_trans (new_alloc _ _) (new_drew _))) (first
          | (refine step_append_one rfl _ _ 135 133 rfl (.int .u32 0) 1 4 Tryz.underlying135 Tryz.infoU32 rfl (by decide) w.heap.size _ t _ rfl (World.ownsRow.alloc HO.out _) wr.heap.size [.int .u32 (bits .or .u32 (bits .or .u32 (bits .or .u32 (IntKind.u32.wrap (x0 * 16777216)) (IntKind.u32.wrap (x1 * 65536))) (IntKind.u32.wrap (x2 * 256))) x3)] rfl ?_ rfl ?_ ?_ ?_ ?_ ?_
             · simp [Value.oneCell']
             · intro j u hu
               refine (cell_new wr #[.int .u32 _] 133 j).trans ?_
               match j, hu with | 0, hu => simpa using hu | j + 1, hu => simp at hu
             · unfold maxLen; omega
             · omega
             · simp; omega
             intro v' w3 hown' hgrow
             have h43 := h4.grown hgL hgO hgrow
             have HOW3 := aside hown'
             have HB3 : Aside (Below w.heap.size w w3) := below_grownD (Nat.le_refl _) HB.out hgO hgrow
             clear hown' hgrow))
        clear h4 hgO hgL
        have HOW4 : Aside (w3.ownsRow w.heap.size 133 1 v' (t + 1) ((wordsTo B (t + 1)).map (Value.int .u32))) := by
          have h := HOW3.out
          rw [IntKind.wrap_u32, IntKind.wrap_u32, IntKind.wrap_u32, HWE.out] at h
          rw [Aside, wordsTo_snoc, List.map_append]
          exact h
        clear HOW3
        go_wp2_with fail
        go_roundg (64 - (t + 1))
        case measure => exact HM.out.1
        case rel => exact ⟨t + 1, _, rfl, by go_num, HM.out.2, by omega, HOW4, HB3⟩
      · have hz16 : ¬ (t : Int) < 16 := by omega
        obtain ⟨ya, yc, hy, hyc, hyx⟩ := ownsRow_form HO.out
        obtain ⟨gy, rfl, hgy, hgyl, hyj⟩ := hyx (by omega)
        have cW : ∀ j, j < t → wr.cell? ⟨gy, j, none⟩ = some (.int .u32 (wd B j)) := fun j hj => hyj j _ (by
          have hg := get_wordsTo B t j hj
          rw [getElem!_pos _ j (by rw [length_wordsTo]; exact hj)] at hg
          rw [List.getElem?_map, List.getElem?_eq_getElem (by rw [length_wordsTo]; exact hj), hg]
          rfl)
        have c2 := cW (t - 2) (by omega)
        have c7 := cW (t - 7) (by omega)
        have c15 := cW (t - 15) (by omega)
        have c16 := cW (t - 16) (by omega)
        subst hy
        have HWH := aside (wd_high B t (by omega))
        obtain ⟨x2, hx2⟩ : ∃ x, x = wd B (t - 2) := ⟨_, rfl⟩
        obtain ⟨x7, hx7⟩ : ∃ x, x = wd B (t - 7) := ⟨_, rfl⟩
        obtain ⟨x15, hx15⟩ : ∃ x, x = wd B (t - 15) := ⟨_, rfl⟩
        obtain ⟨x16, hx16⟩ : ∃ x, x = wd B (t - 16) := ⟨_, rfl⟩
        rw [← hx2] at c2 HWH
        rw [← hx7] at c7 HWH
        rw [← hx15] at c15 HWH
        rw [← hx16] at c16 HWH
        have HHY := aside hyc
        have HHG := aside hgy
        have HHL := aside hgyl
        have HX7 : Aside (wd B (t - 7) = x7) := hx7.symm
        have HX16 : Aside (wd B (t - 16) = x16) := hx16.symm
        clear hx2 hx7 hx15 hx16 cW hyj hyx hyc hgy hgyl
        have e2 : IntKind.i64.wrap ((t : Int) - 2) = (t : Int) - 2 := IntWalk.i64_in _ (by omega)
        have u2 : (t : Int) - 2 < t := by omega
        have z2 : ((t : Int) - 2).toNat = t - 2 := by omega
        have l2 : (2 : Int) ≤ (t : Int) := by omega
        have e15 : IntKind.i64.wrap ((t : Int) - 15) = (t : Int) - 15 := IntWalk.i64_in _ (by omega)
        have u15 : (t : Int) - 15 < t := by omega
        have z15 : ((t : Int) - 15).toNat = t - 15 := by omega
        have l15 : (15 : Int) ≤ (t : Int) := by omega
        go_upto_region 7 with fail
        go_quiet (fail)
        have c7 := (new_drewN wr nq).cell (p := ⟨gy, t - 7, none⟩) HHL.out |>.trans c7
        have c16 := (new_drewN wr nq).cell (p := ⟨gy, t - 16, none⟩) HHL.out |>.trans c16
        have HO7 : Aside ((wr.drewN nq).ownsRow w.heap.size 133 1 (.slice (some ⟨gy, 0, none⟩) t yc) t ((wordsTo B t).map (Value.int .u32))) := ownsRow_new HO.out (new_drewN _ _)
        have HB7 : Aside (Below w.heap.size w (wr.drewN nq)) := st_new w _ _ HB.out (new_drewN _ _)
        clear HO HB e2 u2 z2 l2 e15 u15 z15 l15 hsw HHL
        generalize wr.drewN nq = wq at c7 c16 HO7 HB7 ⊢
        go_wp2_with fail
        refine (rr_7 x15 wq).mono ?_
        rintro e w1 ⟨rfl, hw⟩
        rw [hw]
        clear hw w1
        go_wp2_with fail
        refine (rr_18 x15 wq).mono ?_
        rintro e w1 ⟨rfl, hw⟩
        rw [hw]
        clear hw w1
        go_wp2_with fail
        refine (rr_17 x2 wq).mono ?_
        rintro e w1 ⟨rfl, hw⟩
        rw [hw]
        clear hw w1
        go_wp2_with fail
        refine (rr_19 x2 wq).mono ?_
        rintro e w1 ⟨rfl, hw⟩
        rw [hw]
        clear hw w1
        have e7 : IntKind.i64.wrap ((t : Int) - 7) = (t : Int) - 7 := IntWalk.i64_in _ (by omega)
        have u7 : (t : Int) - 7 < t := by omega
        have z7 : ((t : Int) - 7).toNat = t - 7 := by omega
        have l7 : (7 : Int) ≤ (t : Int) := by omega
        have e16 : IntKind.i64.wrap ((t : Int) - 16) = (t : Int) - 16 := IntWalk.i64_in _ (by omega)
        have u16 : (t : Int) - 16 < t := by omega
        have z16 : ((t : Int) - 16).toNat = t - 16 := by omega
        have l16 : (16 : Int) ≤ (t : Int) := by omega
        obtain ⟨s0, hs0⟩ : ∃ s, s = bits .xor .u32 (bits .xor .u32 (rotr 7 x15) (rotr 18 x15)) (x15 / 8) := ⟨_, rfl⟩
        obtain ⟨s1, hs1⟩ : ∃ s, s = bits .xor .u32 (bits .xor .u32 (rotr 17 x2) (rotr 19 x2)) (x2 / 1024) := ⟨_, rfl⟩
        go_upto_region 10 with fail
        rw [← hs0, ← hs1]
        have HS0 := aside hs0
        have HS1 := aside hs1
        clear hs0 hs1
        have hgO : ∀ k, (Value.slice (some ⟨gy, 0, none⟩) t yc).ownBlock = some k → w.heap.size ≤ k := ownBlock_ge HO7.out
        have hsw : w.heap.size ≤ wq.heap.size := HB7.out.size
        go_region_held3 (fun W => W.cell? ⟨gy, t - 7, none⟩ = some (.int .u32 x7) ∧ W.cell? ⟨gy, t - 16, none⟩ = some (.int .u32 x16)) (first | exact h43 | exact ⟨c7, c16⟩ | exact ⟨(new_alloc _ _).cell (cell_lt c7) |>.trans c7, (new_alloc _ _).cell (cell_lt c16) |>.trans c16⟩) (first
          | (refine step_append_keep rfl _ _ 135 133 rfl (.int .u32 0) 1 4 Tryz.underlying135 Tryz.infoU32 rfl (by decide) w.heap.size gy t yc (by omega) _ rfl (World.ownsRow.alloc HO7.out _) wq.heap.size [.int .u32 (IntKind.u32.wrap (IntKind.u32.wrap (IntKind.u32.wrap (s1 + x7) + s0) + x16))] rfl ?_ rfl ?_ ?_ ?_ ?_ ?_
             · simp [Value.oneCell']
             · intro j u hu
               refine (cell_new wq #[.int .u32 _] 133 j).trans ?_
               match j, hu with | 0, hu => simpa using hu | j + 1, hu => simp at hu
             · unfold maxLen; omega
             · omega
             · simp; omega
             intro v' w3 hown' hgrow hcells
             have h43 : w3.cell? ⟨gy, t - 7, none⟩ = some (.int .u32 x7) ∧ w3.cell? ⟨gy, t - 16, none⟩ = some (.int .u32 x16) := ⟨hcells _ _ (by rw [List.getElem?_map, wordsTo_get? B t (t - 7) (by omega), HX7.out]; rfl), hcells _ _ (by rw [List.getElem?_map, wordsTo_get? B t (t - 16) (by omega), HX16.out]; rfl)⟩
             have HOW3 := aside hown'
             have HB3 : Aside (Below w.heap.size w w3) := below_grownD (v := .slice (some ⟨gy, 0, none⟩) t yc) (Nat.le_refl _) HB7.out hgO hgrow
             clear hown' hgrow hcells))
        have HOW4 : Aside (w3.ownsRow w.heap.size 133 1 v' (t + 1) ((wordsTo B (t + 1)).map (Value.int .u32))) := by
          have h := HOW3.out
          rw [IntKind.wrap_u32, IntKind.wrap_u32, IntKind.wrap_u32] at h
          rw [Aside, wordsTo_snoc, List.map_append, HWH.out, mixW]
          have e : ((s1 + x7) % 4294967296 + s0) % 4294967296 + x16 = ((s1 + x7) % 4294967296 + s0) % 4294967296 + x16 := rfl
          have e1 : (((s1 + x7) % 4294967296 + s0) % 4294967296 + x16) % 4294967296 = (partF 17 19 10 x2 + x7 + partF 7 18 3 x15 + x16) % 4294967296 := by
            have a1 : partF 17 19 10 x2 = s1 := HS1.out.symm
            have a2 : partF 7 18 3 x15 = s0 := HS0.out.symm
            rw [a1, a2]; omega
          rw [← e1]
          exact h
        clear HOW3 h43 c7 c16 e7 e16 u7 u16 z7 z16 l7 l16 hgO
        go_wp2_with fail
        go_roundg (64 - (t + 1))
        case measure => exact HM.out.1
        case rel => exact ⟨t + 1, _, rfl, by go_num, HM.out.2, by omega, HOW4, HB3⟩
    · have hz64 : ¬ (t : Int) < 64 := by omega
      obtain rfl : t = 64 := by omega
      have HE : Aside (OwnPost .u32 133 (wordsTo B 64) w (.returned y) wr) := by
        refine ⟨y, rfl, ?_, HB.out⟩
        have h := HO.out
        rw [length_wordsTo]
        exact h
      clear hgk ht h64
      go_wp2_with fail
      go_ret
      exact HE.out
end Go.Proofs.YtkpmcjfolncmmaaGreatDoor
namespace Go.Proofs.YtkpmcjfolncmmaaGreatDoor
open Go.RowKit
def arr8 (z : S8) : Array Value := #[.int .u32 z.a, .int .u32 z.b, .int .u32 z.c, .int .u32 z.d, .int .u32 z.e, .int .u32 z.f, .int .u32 z.g, .int .u32 z.h]
def KAt (K : Nat → Int) (g lo : Nat) (w : World) : Prop := g < w.heap.size ∧ ∀ j, j < 64 → w.cell? ⟨g, lo + j, none⟩ = some (.int .u32 (K j))
theorem KAt.on {K : Nat → Int} {g lo : Nat} {w w' : World} (h : KAt K g lo w) (hb : Below w.heap.size w w') : KAt K g lo w' :=
  ⟨Nat.lt_of_lt_of_le h.1 hb.size, fun j hj => (hb.cell (p := ⟨g, lo + j, none⟩) h.1).trans (h.2 j hj)⟩
theorem KAt.words {B : Nat → Int} {base : Nat} {E : TypeId} {w : World} {v : Value} (h : w.ownsRow base E 1 v 64 ((wordsTo B 64).map (Value.int .u32))) : ∃ g cap, v = .slice (some ⟨g, 0, none⟩) 64 cap ∧ KAt (wd B) g 0 w := by
  obtain ⟨a, cap, e, _, hx⟩ := ownsRow_form h
  obtain ⟨g, rfl, _, hg, hj⟩ := hx (by omega)
  refine ⟨g, cap, e, hg, fun j hjl => ?_⟩
  rw [Nat.zero_add]
  refine hj j _ ?_
  rw [List.getElem?_map, wordsTo_get? B 64 j hjl]
  rfl
theorem arr8_cell {b : Nat} {z : S8} {w : World} {t : TypeId} {fr : Nat × Nat} (h : w.heap[b]? = some (.cells (arr8 z) t fr)) (j : Nat) (hj : j < 8) : w.cell? ⟨b, j, none⟩ = some (.int .u32 (z.get j)) := by
  rw [cell_whole h, arr8]
  exact get_lit8 z j hj
theorem build8 (a b c d e f g h : Int) (w : World) : (Instr.build 134 #[(0, .int .u32 a), (1, .int .u32 b), (2, .int .u32 c), (3, .int .u32 d), (4, .int .u32 e), (5, .int .u32 f), (6, .int .u32 g), (7, .int .u32 h)]).run Tryz.prog w = .ok (.agg #[.int .u32 a, .int .u32 b, .int .u32 c, .int .u32 d, .int .u32 e, .int .u32 f, .int .u32 g, .int .u32 h]) w := by kernel_rfl
theorem all8 (a b c d e f g h : Int) : (#[.int .u32 a, .int .u32 b, .int .u32 c, .int .u32 d, .int .u32 e, .int .u32 f, .int .u32 g, .int .u32 h] : Array Value).all (·.oneCell') = true := by simp [Value.oneCell']
theorem not_u32 (e : Int) (he : 0 ≤ e ∧ e ≤ 4294967295) : bits .xor .u32 IntKind.u32.max e = 4294967295 - e := by
  obtain ⟨e, rfl, ke⟩ := nat_of e he
  have h := u32_xor_nat 4294967295 e (by decide) ke
  have hm : IntKind.u32.max = ((4294967295 : Nat) : Int) := by decide
  rw [hm, h]
  have : 4294967295 ^^^ e = 4294967295 - e := by
    apply Nat.eq_of_testBit_eq
    intro i
    rw [Nat.testBit_xor, bit_not e i ke, show (4294967295 : Nat) = 2 ^ 32 - 1 by decide, Nat.testBit_two_pow_sub_one]
    by_cases hi : i < 32
    · simp [hi]
    · rw [bit_high e i ke hi]; simp [hi]
  rw [this]
  omega
set_option maxHeartbeats 1000000 in
set_option maxRecDepth 100000 in
theorem block_any (st : S8) (hst : st.ok) (blk : ByteArray) (g lo cap : Nat) (hcap : 64 ≤ cap) (K : Nat → Int) (kb ko kc : Nat) (w : World) (hb : BlkAt blk g lo w) (hk : KAt K kb ko w) :
    Calls Tryz.prog 75 #[.agg (arr8 st), .slice (some ⟨g, lo, none⟩) 64 cap, .slice (some ⟨kb, ko, none⟩) 64 kc] w fun e w' => e = .returned (.agg (arr8 (blockF K st blk))) ∧ Below w.heap.size w w' := by
  obtain ⟨R, hR⟩ : ∃ R, R = blockF K st blk := ⟨_, rfl⟩
  rw [← hR]
  have HRR := aside hR
  clear hR
  have HST := aside hst
  have HBK := aside hb
  have HKR := aside hk
  have HCAP := aside hcap
  clear hst hb hcap hk
  go_enter Tryz.func75, Tryz.ntmps75
  go_wp2_with fail
  obtain ⟨b, hb⟩ : ∃ x, x = w.heap.size := ⟨_, rfl⟩
  obtain ⟨w0, hw0⟩ : ∃ x, x = (w.alloc (.cells (arr8 st) 134)).alloc (.cells #[.int .u32 0, .int .u32 0, .int .u32 0, .int .u32 0, .int .u32 0, .int .u32 0, .int .u32 0, .int .u32 0] 134) := ⟨_, rfl⟩
  have HB0 : Aside (Below w.heap.size w w0) := by rw [hw0]; exact new_trans (new_alloc _ _) (new_alloc _ _)
  have HS0 : Aside (w0.heap[b]? = some (.cells (arr8 st) 134 (0, 0))) := by
    rw [hw0, hb]
    exact whole_new (heap_new w _) (new_alloc _ _)
  have HR0 : Aside (w0.heap[b + 1]? = some (.cells #[.int .u32 0, .int .u32 0, .int .u32 0, .int .u32 0, .int .u32 0, .int .u32 0, .int .u32 0, .int .u32 0] 134 (0, 0))) := by
    rw [Aside, hw0, hb, show w.heap.size + 1 = (w.alloc (.cells (arr8 st) 134)).heap.size by simp]
    exact heap_new _ _
  rw [← hw0, ← hb]
  have HBW := aside hb
  clear hw0 hb
  refine (words_any blk g lo cap HCAP.out w0 (HBK.out.on HB0.out)).mono ?_
  rintro e w1 ⟨v, rfl, ho, hb1⟩
  rw [length_wordsTo] at ho
  obtain ⟨wb, wc, rfl, hwa⟩ := KAt.words ho
  have HWA := aside hwa
  have HB1 : Aside (Below w.heap.size w w1) := new_trans HB0.out hb1
  have HS1 := aside (whole_new HS0.out hb1)
  have HR1 := aside (whole_new HR0.out hb1)
  have HKR1 := aside (HKR.out.on HB1.out)
  clear hb1 ho hwa HS0 HR0 HB0 HKR
  have c0 := arr8_cell HS1.out 0 (by omega)
  have c1 := arr8_cell HS1.out 1 (by omega)
  have c2 := arr8_cell HS1.out 2 (by omega)
  have c3 := arr8_cell HS1.out 3 (by omega)
  have c4 := arr8_cell HS1.out 4 (by omega)
  have c5 := arr8_cell HS1.out 5 (by omega)
  have c6 := arr8_cell HS1.out 6 (by omega)
  have c7 := arr8_cell HS1.out 7 (by omega)
  simp only [S8.get] at c0 c1 c2 c3 c4 c5 c6 c7
  go_wp2_with fail
  clear c0 c1 c2 c3 c4 c5 c6 c7
  obtain ⟨X, hX⟩ : ∃ x, x = w1.heap.size := ⟨_, rfl⟩
  obtain ⟨w2, hw2⟩ : ∃ x, x = w1.alloc (.cells #[.int .u32 st.a, .int .u32 st.b, .int .u32 st.c, .int .u32 st.d, .int .u32 st.e, .int .u32 st.f, .int .u32 st.g, .int .u32 st.h] 134) := ⟨_, rfl⟩
  have HX2 : Aside (w2.heap[X]? = some (.cells (arr8 st) 134 (0, 0))) := by rw [hw2, hX]; exact heap_new _ _
  have HB2 : Aside (Below w1.heap.size w1 w2) := by rw [hw2]; exact new_alloc _ _
  have HXW := aside hX
  rw [← hw2, ← hX]
  obtain ⟨B, hB⟩ : ∃ B, B = wd (byteOf blk) := ⟨_, rfl⟩
  rw [← hB] at HWA
  have HBE := aside hB
  clear hX hw2 hB
  go_loopg [9] 64 (fun gk v9 wr => ∃ (t : Nat) (z : S8), v9 = .int .i64 t ∧ t ≤ 64 ∧ 64 - t ≤ gk ∧ Aside (z = runTo K B st t) ∧ Aside (wr.heap[X]? = some (.cells (arr8 z) 134 (0, 0))) ∧ Aside (Below w1.heap.size w1 wr))
  case atStart => exact ⟨0, st, rfl, by omega, by omega, rfl, HX2, HB2⟩
  case round =>
    clear HX2 HB2
    obtain ⟨t, z, rfl, ht, hgk, HZ, HX, HB⟩ := hrel
    have HZO : Aside z.ok := by rw [Aside, HZ.out]; exact runTo_ok K B st HST.out t
    by_cases h64 : t < 64
    · have hz64 : (t : Int) < 64 := by omega
      have HM : Aside (64 - (t + 1) < gk ∧ t + 1 ≤ 64) := ⟨by omega, by omega⟩
      have c0 := arr8_cell HX.out 0 (by omega)
      have c1 := arr8_cell HX.out 1 (by omega)
      have c2 := arr8_cell HX.out 2 (by omega)
      have c3 := arr8_cell HX.out 3 (by omega)
      have c4 := arr8_cell HX.out 4 (by omega)
      have c5 := arr8_cell HX.out 5 (by omega)
      have c6 := arr8_cell HX.out 6 (by omega)
      have c7 := arr8_cell HX.out 7 (by omega)
      have cw := (HWA.out.on HB.out).2 t h64
      rw [Nat.zero_add] at cw
      have ck := (HKR1.out.on HB.out).2 t h64
      have HZN : Aside (runTo K B st (t + 1) = step8 z (K t) (B t)) := by rw [Aside, HZ.out]; rfl
      obtain ⟨k, hk⟩ : ∃ x, x = K t := ⟨_, rfl⟩
      obtain ⟨x, hx⟩ : ∃ x, x = B t := ⟨_, rfl⟩
      rw [← hk] at ck HZN
      rw [← hx] at cw HZN
      have HXF := HX.out
      obtain ⟨za, zb, zc, zd, ze, zf, zg, zh⟩ := z
      simp only [S8.get] at c0 c1 c2 c3 c4 c5 c6 c7
      have HZB : Aside ((0 ≤ ze ∧ ze ≤ 4294967295) ∧ (0 ≤ zf ∧ zf ≤ 4294967295) ∧ (0 ≤ zg ∧ zg ≤ 4294967295) ∧ (0 ≤ za ∧ za ≤ 4294967295) ∧ (0 ≤ zb ∧ zb ≤ 4294967295) ∧ (0 ≤ zc ∧ zc ≤ 4294967295)) := by
        obtain ⟨a1, a2, a3, a4, a5, a6, a7, a8⟩ := HZO.out
        exact ⟨a5, a6, a7, a1, a2, a3⟩
      have HXL : Aside (X < wr.heap.size) := whole_lt HXF
      have HXI := aside HXF
      clear hk hx hgk ht HX HXF
      go_wp2_with fail
      go_quiet (fail)
      have hq : ∀ (g i : Nat) (v : Value), wr.cell? ⟨g, i, none⟩ = some v → (wr.drewN nq).cell? ⟨g, i, none⟩ = some v := fun g i v h => ((new_drewN wr nq).cell (cell_lt h)).trans h
      replace c0 := hq _ _ _ c0
      replace c1 := hq _ _ _ c1
      replace c2 := hq _ _ _ c2
      replace c3 := hq _ _ _ c3
      replace c4 := hq _ _ _ c4
      replace c5 := hq _ _ _ c5
      replace c6 := hq _ _ _ c6
      replace c7 := hq _ _ _ c7
      replace cw := hq _ _ _ cw
      replace ck := hq _ _ _ ck
      have HB3 : Aside (Below w1.heap.size w1 (wr.drewN nq)) := st_new w1 _ _ HB.out (new_drewN _ _)
      have HX3 : Aside ((wr.drewN nq).heap[X]? = some (.cells (arr8 ⟨za, zb, zc, zd, ze, zf, zg, zh⟩) 134 (0, 0))) := HXI.out
      have HXL3 : Aside (X < (wr.drewN nq).heap.size) := HXL.out
      clear hq HB HXI HXL
      generalize wr.drewN nq = w3 at c0 c1 c2 c3 c4 c5 c6 c7 cw ck HB3 HX3 HXL3 ⊢
      go_wp2_with fail
      obtain ⟨ch, hch⟩ : ∃ x, x = bits .xor .u32 (bits .and .u32 ze zf) (bits .and .u32 (bits .xor .u32 IntKind.u32.max ze) zg) := ⟨_, rfl⟩
      obtain ⟨mj, hmj⟩ : ∃ x, x = bits .xor .u32 (bits .xor .u32 (bits .and .u32 za zb) (bits .and .u32 za zc)) (bits .and .u32 zb zc) := ⟨_, rfl⟩
      rw [← hch, ← hmj]
      have HCH : Aside (ch = bits .xor .u32 zg (bits .and .u32 ze (bits .xor .u32 zf zg))) := by
        obtain ⟨a1, a2, a3, _⟩ := HZB.out
        rw [Aside, hch, not_u32 ze a1]
        exact ch_eq ze zf zg a1 a2 a3
      have HMJ : Aside (mj = bits .or .u32 (bits .and .u32 za zb) (bits .and .u32 zc (bits .or .u32 za zb))) := by
        obtain ⟨_, _, _, a1, a2, a3⟩ := HZB.out
        rw [Aside, hmj]
        exact maj_eq za zb zc a1 a2 a3
      clear hch hmj
      go_quiet ((go_at_call 90; exact quiet_eq (rr_any _ _ _ (by simp))))
      have hq : ∀ (g i : Nat) (v : Value), w3.cell? ⟨g, i, none⟩ = some v → (w3.drewN nq).cell? ⟨g, i, none⟩ = some v := fun g i v h => ((new_drewN w3 nq).cell (cell_lt h)).trans h
      replace c0 := hq _ _ _ c0
      replace c1 := hq _ _ _ c1
      replace c2 := hq _ _ _ c2
      replace c3 := hq _ _ _ c3
      replace c4 := hq _ _ _ c4
      replace c5 := hq _ _ _ c5
      replace c6 := hq _ _ _ c6
      have HB4 : Aside (Below w1.heap.size w1 (w3.drewN nq)) := st_new w1 _ _ HB3.out (new_drewN _ _)
      have HX4 : Aside ((w3.drewN nq).heap[X]? = some (.cells (arr8 ⟨za, zb, zc, zd, ze, zf, zg, zh⟩) 134 (0, 0))) := HX3.out
      clear hq HB3 HX3
      clear c7 cw ck
      have HXL4 : Aside (X < (w3.drewN nq).heap.size) := HXL3.out
      generalize w3.drewN nq = w4 at c0 c1 c2 c3 c4 c5 c6 HB4 HX4 HXL4 ⊢
      go_upto_region 11 with (go_at_call 90; refine (rr_any _ _ _ (by simp)).mono ?_; rintro e w5 ⟨rfl, rfl⟩)
      obtain ⟨p1, hp1⟩ : ∃ p, p = (zh + bits .xor .u32 (bits .xor .u32 (rotr 6 ze) (rotr 11 ze)) (rotr 25 ze) + ch + k + x) % 4294967296 := ⟨_, rfl⟩
      obtain ⟨p2, hp2⟩ : ∃ p, p = (bits .xor .u32 (bits .xor .u32 (rotr 2 za) (rotr 13 za)) (rotr 22 za) + mj) % 4294967296 := ⟨_, rfl⟩
      rw [← hp1, ← hp2]
      have HP : Aside (step8 ⟨za, zb, zc, zd, ze, zf, zg, zh⟩ k x = ⟨(p1 + p2) % 4294967296, za, zb, zc, (zd + p1) % 4294967296, ze, zf, zg⟩) := by
        have e1 : one8 ⟨za, zb, zc, zd, ze, zf, zg, zh⟩ k x = p1 := by rw [hp1, HCH.out]; rfl
        have e2 : two8 ⟨za, zb, zc, zd, ze, zf, zg, zh⟩ = p2 := by rw [hp2, HMJ.out]; rfl
        rw [Aside, step8, e1, e2]
      have kw1 : IntKind.u32.wrap (p1 + p2) = (p1 + p2) % 4294967296 := IntKind.wrap_u32 _
      have kw2 : IntKind.u32.wrap (zd + p1) = (zd + p1) % 4294967296 := IntKind.wrap_u32 _
      have hi8 : (Tryz.prog.info? 134).map (·.size) = some 8 := by kernel_rfl
      clear hp1 hp2
      go_wp2_with (first
        | (refine wpList_build_by rfl 134 _ rfl [(0, .int .u32 ((p1 + p2) % 4294967296)), (1, .int .u32 za), (2, .int .u32 zb), (3, .int .u32 zc), (4, .int .u32 ((zd + p1) % 4294967296)), (5, .int .u32 ze), (6, .int .u32 zf), (7, .int .u32 zg)] rfl _ (build8 _ _ _ _ _ _ _ _ _) ?_)
        | (refine wpList_store_row rfl _ _ _ rfl X #[.int .u32 ((p1 + p2) % 4294967296), .int .u32 za, .int .u32 zb, .int .u32 zc, .int .u32 ((zd + p1) % 4294967296), .int .u32 ze, .int .u32 zf, .int .u32 zg] rfl rfl 134 _ HX4.out hi8 rfl (all8 _ _ _ _ _ _ _ _) ?_)
        | fail)
      have HX5 : Aside ((w4.setRow X #[.int .u32 ((p1 + p2) % 4294967296), .int .u32 za, .int .u32 zb, .int .u32 zc, .int .u32 ((zd + p1) % 4294967296), .int .u32 ze, .int .u32 zf, .int .u32 zg]).heap[X]? = some (.cells (arr8 (step8 ⟨za, zb, zc, zd, ze, zf, zg, zh⟩ k x)) 134 (0, 0))) := by
        rw [HP.out]
        exact setRow_heap w4 X _ _ _ _ HX4.out
      have HB5 : Aside (Below w1.heap.size w1 (w4.setRow X #[.int .u32 ((p1 + p2) % 4294967296), .int .u32 za, .int .u32 zb, .int .u32 zc, .int .u32 ((zd + p1) % 4294967296), .int .u32 ze, .int .u32 zf, .int .u32 zg])) := below_setRow HB4.out (by rw [HXW.out]; exact Nat.le_refl _) _
      clear HX4 HB4 c0 c1 c2 c3 c4 c5 c6 kw1 kw2
      go_wp2_with fail
      go_roundg (64 - (t + 1))
      case measure => exact HM.out.1
      case rel => exact ⟨t + 1, step8 ⟨za, zb, zc, zd, ze, zf, zg, zh⟩ k x, by go_num, HM.out.2, by omega, HZN.out.symm, HX5, HB5⟩
    · have hz64 : ¬ (t : Int) < 64 := by omega
      obtain rfl : t = 64 := by omega
      have HF : Aside (addS st z = R) := by
        rw [Aside, HZ.out, HBE.out, HRR.out]
        exact blockF_eq K st blk 64 rfl
      have HS := aside (whole_new HS1.out HB.out)
      have HR := aside (whole_new HR1.out HB.out)
      have HBw : Aside (Below w.heap.size w wr) := new_trans HB1.out HB.out
      have hbX : b ≠ X := by have := whole_lt HS1.out; rw [HXW.out]; omega
      have HA0 : Aside (AddAt b 0 st z wr) := fun j hj => ⟨by rw [if_neg (by omega)]; exact arr8_cell HS.out j hj, frozen_whole HS.out j⟩
      have HXC : Aside (∀ j, j < 8 → wr.cell? ⟨X, j, none⟩ = some (.int .u32 (z.get j))) := fun j hj => arr8_cell HX.out j hj
      clear HZ ht hgk h64 HB HS HX
      go_wp2_with fail
      have HK0 : Aside (Below w.heap.size w wr) := HBw
      go_loopg [16] 8 (fun gk v16 wr => ∃ i : Nat, v16 = .int .i64 i ∧ i ≤ 8 ∧ 8 - i ≤ gk ∧ Aside (AddAt b i st z wr) ∧ Aside (∀ j, j < 8 → wr.cell? ⟨X, j, none⟩ = some (.int .u32 (z.get j))) ∧ Aside (wr.heap[b + 1]? = some (.cells #[.int .u32 0, .int .u32 0, .int .u32 0, .int .u32 0, .int .u32 0, .int .u32 0, .int .u32 0, .int .u32 0] 134 (0, 0))) ∧ Aside (Below w.heap.size w wr))
      case atStart => exact ⟨0, rfl, by omega, by omega, HA0, HXC, HR, HK0⟩
      case round =>
        clear HA0 HXC HR HK0 HBw
        obtain ⟨i, rfl, hi, hgk, HA, HXC, HR, HBw⟩ := hrel
        by_cases h8 : i < 8
        · have hz8 : (i : Int) < 8 := by omega
          have c0 := (HA.out i h8).1
          have f0 := (HA.out i h8).2
          have c1 := HXC.out i h8
          rw [if_neg (by omega)] at c0
          have HG := aside (get_addS st z i h8)
          obtain ⟨y, hy⟩ : ∃ x, x = st.get i := ⟨_, rfl⟩
          obtain ⟨x, hx⟩ : ∃ x, x = z.get i := ⟨_, rfl⟩
          rw [← hy] at c0 HG
          rw [← hx] at c1 HG
          have HM : Aside (8 - (i + 1) < gk ∧ i + 1 ≤ 8) := ⟨by omega, by omega⟩
          have kw : IntKind.u32.wrap (y + x) = (y + x) % 4294967296 := IntKind.wrap_u32 _
          clear hy hx hgk hi
          go_upto_region 15 with fail
          go_still_tail 9, (by kernel_rfl)
          go_wp2_with fail
          have HA2 : Aside (AddAt b (i + 1) st z ((wr.setCell ⟨b, i, none⟩ (.int .u32 ((y + x) % 4294967296))).drew)) := AddAt.drew (HA.out.step h8 _ HG.out.symm)
          have HX2 : Aside (∀ j, j < 8 → ((wr.setCell ⟨b, i, none⟩ (.int .u32 ((y + x) % 4294967296))).drew).cell? ⟨X, j, none⟩ = some (.int .u32 (z.get j))) := fun j hj => by
            refine Eq.trans ?_ (HXC.out j hj)
            exact World.cell?_setCell_other wr _ _ _ (by intro e; exact hbX (congrArg Addr.block e))
          have HR2 : Aside (((wr.setCell ⟨b, i, none⟩ (.int .u32 ((y + x) % 4294967296))).drew).heap[b + 1]? = some (.cells #[.int .u32 0, .int .u32 0, .int .u32 0, .int .u32 0, .int .u32 0, .int .u32 0, .int .u32 0, .int .u32 0] 134 (0, 0))) := whole_other HR.out (by omega) _ _
          have HB2 : Aside (Below w.heap.size w ((wr.setCell ⟨b, i, none⟩ (.int .u32 ((y + x) % 4294967296))).drew)) := (HBw.out.setCell (p := ⟨b, i, none⟩) (by rw [HBW.out]; exact Nat.le_refl _) _).drew
          clear c0 f0 c1 kw HA HXC HR HBw
          go_roundg (8 - (i + 1))
          case measure => exact HM.out.1
          case rel => exact ⟨i + 1, by go_num, HM.out.2, by omega, HA2, HX2, HR2, HB2⟩
        · have hz8 : ¬ (i : Int) < 8 := by omega
          obtain rfl : i = 8 := by omega
          have cs : ∀ j, j < 8 → wr.cell? ⟨b, j, none⟩ = some (.int .u32 (R.get j)) := fun j hj => by
            have h := (HA.out j hj).1
            rw [if_pos hj, HF.out] at h
            exact h
          clear HRR HF
          obtain ⟨ra, rb, rc, rd, re, rf, rg, rh⟩ := R
          have c0 := cs 0 (by omega)
          have c1 := cs 1 (by omega)
          have c2 := cs 2 (by omega)
          have c3 := cs 3 (by omega)
          have c4 := cs 4 (by omega)
          have c5 := cs 5 (by omega)
          have c6 := cs 6 (by omega)
          have c7 := cs 7 (by omega)
          simp only [S8.get] at c0 c1 c2 c3 c4 c5 c6 c7
          have hi8 : (Tryz.prog.info? 134).map (·.size) = some 8 := by kernel_rfl
          obtain ⟨ws, hws⟩ : ∃ x, x = wr.setRow (b + 1) #[.int .u32 ra, .int .u32 rb, .int .u32 rc, .int .u32 rd, .int .u32 re, .int .u32 rf, .int .u32 rg, .int .u32 rh] := ⟨_, rfl⟩
          have hh : ws.heap[b + 1]? = some (.cells (arr8 ⟨ra, rb, rc, rd, re, rf, rg, rh⟩) 134 (0, 0)) := by rw [hws]; exact setRow_heap wr (b + 1) _ _ _ _ HR.out
          have HBs : Aside (Below w.heap.size w ws) := by rw [hws]; exact below_setRow HBw.out (by rw [HBW.out]; omega) _
          have HWS := aside hws
          clear cs hi hgk h8 HA HXC HBw hws
          go_wp2_with (first
            | (refine wpList_store_row rfl _ _ _ rfl (b + 1) #[.int .u32 ra, .int .u32 rb, .int .u32 rc, .int .u32 rd, .int .u32 re, .int .u32 rf, .int .u32 rg, .int .u32 rh] rfl rfl 134 _ HR.out hi8 rfl (all8 _ _ _ _ _ _ _ _) ?_; rw [← HWS.out])
            | fail)
          have hi8' : (Tryz.prog.info? 134).map (·.size) = some (arr8 ⟨ra, rb, rc, rd, re, rf, rg, rh⟩).size := hi8
          exact bodyPost_ret (results_cell_row rfl _ _ (b + 1) 134 (arr8 ⟨ra, rb, rc, rd, re, rf, rg, rh⟩) (0, 0) _ rfl hh Tryz.underlying134 rfl hi8') rfl ⟨rfl, HBs.out⟩
end Go.Proofs.YtkpmcjfolncmmaaGreatDoor
namespace Go.Proofs.YtkpmcjfolncmmaaGreatDoor
open Go.RowKit
def refF : S8 := ⟨1779033703, 3144134277, 1013904242, 2773480762, 1359893119, 2600822924, 528734635, 1541459225⟩
def refK (j : Nat) : Int := (natV (fracsL 64 true)).getD j 0
theorem refF_ok : refF.ok := by unfold S8.ok refF; decide
theorem refF_get : ∀ j, j < 8 → (natV (fracsL 8 false)).getD j 0 = refF.get j := by rw [fracs8]; decide
def FillAt (D : Nat) (z : S8) (n : Nat) (w : World) : Prop := ∃ cs, w.heap[D]? = some (.cells cs 134 (0, 0)) ∧ cs.size = 8 ∧ ∀ j, j < n → cs[j]? = some (.int .u32 (z.get j))
theorem FillAt.set {D : Nat} {z : S8} {n : Nat} {w : World} (h : FillAt D z n w) (hn : n < 8) (x : Int) (hx : x = z.get n) : FillAt D z (n + 1) (w.setCell ⟨D, n, none⟩ (.int .u32 x)) := by
  obtain ⟨cs, h1, h2, h3⟩ := h
  subst hx
  refine ⟨_, heap_setCell_same w D n cs _ _ h1, by simpa using h2, fun j hj => ?_⟩
  rw [Array.getElem?_setIfInBounds]
  by_cases e : n = j
  · rw [if_pos e, if_pos (by omega), e]
  · rw [if_neg e]
    exact h3 j (by omega)
theorem FillAt.cell {D : Nat} {z : S8} {n : Nat} {w : World} (h : FillAt D z n w) (j : Nat) (hj : j < 8) : ∃ v, w.cell? ⟨D, j, none⟩ = some v ∧ w.frozen? ⟨D, j, none⟩ = false := by
  obtain ⟨cs, h1, h2, h3⟩ := h
  exact ⟨cs[j]'(by omega), by rw [cell_whole h1, Array.getElem?_eq_getElem (by omega)], frozen_whole h1 j⟩
theorem FillAt.full {D : Nat} {z : S8} {w : World} (h : FillAt D z 8 w) : w.heap[D]? = some (.cells (arr8 z) 134 (0, 0)) := by
  obtain ⟨cs, h1, h2, h3⟩ := h
  rw [h1]
  have e : cs = arr8 z := by
    refine Array.ext (by rw [h2]; rfl) fun i hi1 hi2 => ?_
    have h4 := h3 i (by omega)
    have h5 := get_lit8 z i (by omega)
    rw [Array.getElem?_eq_getElem hi1] at h4
    have h6 : (arr8 z)[i]? = some (.int .u32 (z.get i)) := h5
    rw [Array.getElem?_eq_getElem hi2] at h6
    exact (Option.some.inj h4).trans (Option.some.inj h6).symm
  rw [e]
theorem padL_bs (t : ByteArray) : Bs (padL t) := by
  intro x hx
  rw [padL, List.mem_append] at hx
  rcases hx with hx | hx
  · exact Bs.nums t x hx
  · rw [padOf, List.mem_append] at hx
    rcases hx with hx | hx
    · rw [padTo, List.mem_cons] at hx
      rcases hx with rfl | hx
      · omega
      · rw [List.mem_replicate] at hx; omega
    · simp only [be8, List.mem_cons, List.not_mem_nil, or_false] at hx
      omega
theorem DgAt.keeps {D : Nat} {z : S8} {n : Nat} {w w' : World} {K : Nat → Prop} (h : DgAt D z n w) (hk : Keeps K w w') (hK : K D) : DgAt D z n w' := by
  obtain ⟨cs, h1, h2, h3⟩ := h
  exact ⟨cs, whole_keeps h1 hk hK, h2, h3⟩
set_option maxHeartbeats 1000000 in
set_option maxRecDepth 100000 in
theorem sum_ref (t : ByteArray) (hts : t.size ≤ 1000000000) (w : World) :
    Calls Tryz.prog 42 #[.string t] w fun e w' => e = .returned (.agg (digestA (sumS refK refF t))) ∧ Below w.heap.size w w' := by
  obtain ⟨RES, hRES⟩ : ∃ R, R = sumS refK refF t := ⟨_, rfl⟩
  rw [← hRES]
  have HRES := aside hRES
  have HTS := aside hts
  clear hts hRES
  go_enter Tryz.func42, Tryz.ntmps42
  go_wp2_with fail
  rw [z32]
  obtain ⟨D, hD⟩ : ∃ x, x = w.heap.size := ⟨_, rfl⟩
  obtain ⟨w0, hw0⟩ : ∃ x, x = (w.alloc (.cells (Array.replicate 32 (.int .u8 0)) 33)).alloc (.cells #[Value.int IntKind.u32 0, Value.int IntKind.u32 0, Value.int IntKind.u32 0, Value.int IntKind.u32 0, Value.int IntKind.u32 0, Value.int IntKind.u32 0, Value.int IntKind.u32 0, Value.int IntKind.u32 0] 134) := ⟨_, rfl⟩
  have HB0 : Aside (Below w.heap.size w w0) := by rw [hw0]; exact new_trans (new_alloc _ _) (new_alloc _ _)
  have HD0 : Aside (w0.heap[D]? = some (.cells (Array.replicate 32 (.int .u8 0)) 33 (0, 0))) := by
    rw [hw0, hD]
    exact whole_new (heap_new w _) (new_alloc _ _)
  have HS0 : Aside (FillAt (D + 1) refF 0 w0) := by
    rw [Aside, hw0, hD, show w.heap.size + 1 = (w.alloc (.cells (Array.replicate 32 (.int .u8 0)) 33)).heap.size by simp]
    exact ⟨_, heap_new _ _, rfl, fun j hj => by omega⟩
  rw [← hw0, ← hD]
  have HDW := aside hD
  clear hw0 hD
  refine (fractions_any 8 (by omega) false (by rw [primes8]; decide) (by rw [primes8]; decide) w0).mono ?_
  rintro e w1 ⟨v, rfl, ho, hb1⟩
  have hl8 : (natV (fracsL 8 false)).length = 8 := by rw [fracs8]; rfl
  rw [hl8] at ho
  obtain ⟨fa, fc, e0, _, hx⟩ := ownsRow_form ho
  obtain ⟨fb, rfl, _, hfl, hfj⟩ := hx (by omega)
  subst e0
  have HF1 : Aside (fb < w1.heap.size ∧ ∀ j, j < 8 → w1.cell? ⟨fb, j, none⟩ = some (.int .u32 (refF.get j))) := by
    refine ⟨hfl, fun j hj => hfj j _ ?_⟩
    rw [List.getElem?_map, List.getElem?_eq_getElem (by rw [hl8]; exact hj)]
    have h := refF_get j hj
    rw [List.getD_eq_getElem?_getD, List.getElem?_eq_getElem (by rw [hl8]; exact hj)] at h
    exact congrArg (fun x => some (Value.int .u32 x)) h
  have HB1 : Aside (Below w.heap.size w w1) := new_trans HB0.out hb1
  have HD1 : Aside (w1.heap[D]? = some (.cells (Array.replicate 32 (.int .u8 0)) 33 (0, 0))) := whole_new HD0.out hb1
  have HS1 : Aside (FillAt (D + 1) refF 0 w1) := by
    obtain ⟨cs, h1, h2, h3⟩ := HS0.out
    exact ⟨cs, whole_new h1 hb1, h2, h3⟩
  have hne : fb ≠ D + 1 := by
    obtain ⟨cs, h1, h2, h3⟩ := HS0.out
    have hl := whole_lt h1
    obtain ⟨_, h4⟩ := ho
    rcases h4 with ⟨h5, _⟩ | ⟨g', _, _, h5, h6, _⟩
    · cases h5
    · cases h5; omega
  clear ho hb1 hx hfl hfj HB0 HD0 HS0 hl8
  go_wp2_with fail
  go_loopg [5] 8 (fun gk v5 wr => ∃ i : Nat, v5 = .int .i64 i ∧ i ≤ 8 ∧ 8 - i ≤ gk ∧ Aside (FillAt (D + 1) refF i wr) ∧ Aside (fb < wr.heap.size ∧ ∀ j, j < 8 → wr.cell? ⟨fb, j, none⟩ = some (.int .u32 (refF.get j))) ∧ Aside (wr.heap[D]? = some (.cells (Array.replicate 32 (.int .u8 0)) 33 (0, 0))) ∧ Aside (Below w.heap.size w wr))
  case atStart => exact ⟨0, rfl, by omega, by omega, HS1, HF1, HD1, HB1⟩
  case round =>
    clear HS1 HF1 HD1 HB1
    obtain ⟨i, rfl, hi, hgk, HS, HF, HD, HB⟩ := hrel
    by_cases h8 : i < 8
    · have hz8 : (i : Int) < 8 := by omega
      have c0 := HF.out.2 i h8
      obtain ⟨u, c1, f1⟩ := HS.out.cell i h8
      have HM : Aside (8 - (i + 1) < gk ∧ i + 1 ≤ 8) := ⟨by omega, by omega⟩
      have HX : Aside (∀ x, x = refF.get i → FillAt (D + 1) refF (i + 1) (wr.setCell ⟨D + 1, i, none⟩ (.int .u32 x))) := fun x hx => HS.out.set h8 x hx
      obtain ⟨x, hx⟩ : ∃ x, x = refF.get i := ⟨_, rfl⟩
      rw [← hx] at c0
      have HS2 := aside (HX.out x hx)
      have HF2 : Aside (fb < (wr.setCell ⟨D + 1, i, none⟩ (.int .u32 x)).heap.size ∧ ∀ j, j < 8 → (wr.setCell ⟨D + 1, i, none⟩ (.int .u32 x)).cell? ⟨fb, j, none⟩ = some (.int .u32 (refF.get j))) := ⟨by rw [World.size_setCell]; exact HF.out.1, fun j hj => (World.cell?_setCell_other wr _ _ _ (by intro e; exact hne (congrArg Addr.block e).symm)).trans (HF.out.2 j hj)⟩
      have HD2 : Aside ((wr.setCell ⟨D + 1, i, none⟩ (.int .u32 x)).heap[D]? = some (.cells (Array.replicate 32 (.int .u8 0)) 33 (0, 0))) := whole_other HD.out (by omega) _ _
      have HB2 : Aside (Below w.heap.size w (wr.setCell ⟨D + 1, i, none⟩ (.int .u32 x))) := HB.out.setCell (p := ⟨D + 1, i, none⟩) (by show w.heap.size ≤ D + 1; have := HDW.out; omega) _
      clear hx hi hgk HX HS HF HD HB
      go_wp2_with fail
      go_roundg (8 - (i + 1))
      case measure => exact HM.out.1
      case rel => exact ⟨i + 1, by go_num, HM.out.2, by omega, HS2, HF2, HD2, HB2⟩
    · have hz8 : ¬ (i : Int) < 8 := by omega
      obtain rfl : i = 8 := by omega
      have HSF := aside HS.out.full
      clear hi hgk h8 HS HF
      go_wp2_with fail
      refine (fractions_any 64 (by omega) true primes64.1 (by rw [primes64.2]; omega) wr).mono ?_
      rintro e w2 ⟨v, rfl, ho, hb2⟩
      have hl64 : (natV (fracsL 64 true)).length = 64 := by rw [natV_length, fracsL, List.length_map, primes64.2]
      rw [hl64] at ho
      obtain ⟨ka, kc, e0, _, hx⟩ := ownsRow_form ho
      obtain ⟨kb, rfl, _, hkl, hkj⟩ := hx (by omega)
      subst e0
      have HK2 : Aside (KAt refK kb 0 w2) := by
        refine ⟨hkl, fun j hj => ?_⟩
        rw [Nat.zero_add]
        refine hkj j _ ?_
        rw [List.getElem?_map, List.getElem?_eq_getElem (by rw [hl64]; exact hj), refK, List.getD_eq_getElem?_getD, List.getElem?_eq_getElem (by rw [hl64]; exact hj)]
        rfl
      have HSF2 := aside (whole_new HSF.out hb2)
      have HD2 := aside (whole_new HD.out hb2)
      have HB2 := aside (st_new w _ _ HB.out hb2)
      have HKG : Aside (D + 1 < kb) := by
        have h1 := whole_lt HSF.out
        obtain ⟨_, h4⟩ := ho
        rcases h4 with ⟨h5, _⟩ | ⟨g', _, _, h5, h6, _⟩
        · cases h5
        · cases h5; rw [Aside]; omega
      clear ho hb2 hx hkl hkj HSF HD HB hl64
      go_wp2_with fail
      refine (pad_any t HTS.out w2).mono ?_
      rintro e w3 ⟨v, rfl, hr, hb3⟩
      have HK3 := aside (HK2.out.on hb3)
      have HS3 := aside (whole_new HSF2.out hb3)
      have HD3 := aside (whole_new HD2.out hb3)
      have HB3 := aside (st_new w _ _ HB2.out hb3)
      obtain ⟨pb, pc, rfl, hpg, hpl, hpc, _, hpj⟩ := hr
      have HPG : Aside (D + 1 < pb) := by have h1 := whole_lt HSF2.out; rw [Aside]; omega
      clear hpg
      obtain ⟨P, hP⟩ : ∃ P, P = strOfNums (padL t) := ⟨_, rfl⟩
      have hPl : (padL t).length = P.size := by rw [hP, strOf_size]
      have hP64 : P.size % 64 = 0 ∧ P.size ≤ 1000001000 := by
        rw [← hPl, padL_length]
        have := HTS.out
        unfold padZ
        omega
      have HPB : Aside (pb < w3.heap.size ∧ ∀ j, j < P.size → w3.cell? ⟨pb, j, none⟩ = some (.int .u8 (byteOf P j))) := by
        refine ⟨hpl, fun j hj => ?_⟩
        rw [hpj j (by rw [hPl]; exact hj), hP, byteOf_nums, numsOf_strOf _ (padL_bs t)]
      obtain ⟨N, hN⟩ : ∃ N, N = P.size / 64 := ⟨_, rfl⟩
      have hPN : P.size = 64 * N := by omega
      have hNl : 64 * N ≤ 1000001000 := by omega
      have HRE : Aside (RES = blocksF refK refF P N) := by
        rw [Aside, HRES.out, ← sum_pad, ← hP, ← hN]
      rw [hPl, hPN] at hpc ⊢
      rw [hPN] at HPB
      clear hb3 hpj hpl hP hPl hP64 hN hPN HK2 HSF2 HD2 HB2 HRES
      go_wp2_with fail
      obtain ⟨M, hM⟩ : ∃ M, M = 64 * N := ⟨_, rfl⟩
      rw [← hM] at hpc HPB ⊢
      have HMN := aside hM
      have HPC := aside hpc
      have hM9 : M ≤ 1000001000 := by omega
      have HM9 := aside hM9
      clear hM hpc hM9 hNl
      go_loopg [8] N (fun gk v8 wr => ∃ n i : Nat, v8 = .int .i64 i ∧ i ≤ M ∧ Aside (i = 64 * n) ∧ N - n ≤ gk ∧ Aside (wr.heap[D + 1]? = some (.cells (arr8 (blocksF refK refF P n)) 134 (0, 0))) ∧ Aside (wr.heap[D]? = some (.cells (Array.replicate 32 (.int .u8 0)) 33 (0, 0))) ∧ Aside (KAt refK kb 0 wr) ∧ Aside (pb < wr.heap.size ∧ ∀ j, j < M → wr.cell? ⟨pb, j, none⟩ = some (.int .u8 (byteOf P j))) ∧ Aside (Below w.heap.size w wr))
      case atStart => exact ⟨0, 0, rfl, by omega, rfl, by omega, HS3, HD3, HK3, HPB, HB3⟩
      case round =>
        clear HS3 HD3 HK3 HPB HB3
        obtain ⟨n, i, rfl, hi, HI, hgk, HS, HD, HK, HPB, HB⟩ := hrel
        by_cases hlt : i < M
        · have hzi : (i : Int) < M := by omega
          have hiM : i + 64 ≤ M := by have := HI.out; have := HMN.out; omega
          have HM : Aside (N - (n + 1) < gk) := by have := HI.out; have := HMN.out; rw [Aside]; omega
          have HZ : Aside (blocksF refK refF P n).ok := blocksF_ok refK refF P refF_ok n
          obtain ⟨z, hz⟩ : ∃ z, z = blocksF refK refF P n := ⟨_, rfl⟩
          have HZN : Aside (blocksF refK refF P (n + 1) = blockF refK z (P.extract i (i + 64))) := by rw [Aside, hz, HI.out]; rfl
          rw [← hz] at HZ HS
          obtain ⟨blk, hblk⟩ : ∃ b, b = P.extract i (i + 64) := ⟨_, rfl⟩
          have HBA : Aside (BlkAt blk pb i wr) := ⟨HPB.out.1, fun j hj => by rw [HPB.out.2 (i + j) (by omega), hblk, byteOf_extract P i (i + 64) j (by omega)]⟩
          rw [← hblk] at HZN
          have c0 := arr8_cell HS.out 0 (by omega)
          have c1 := arr8_cell HS.out 1 (by omega)
          have c2 := arr8_cell HS.out 2 (by omega)
          have c3 := arr8_cell HS.out 3 (by omega)
          have c4 := arr8_cell HS.out 4 (by omega)
          have c5 := arr8_cell HS.out 5 (by omega)
          have c6 := arr8_cell HS.out 6 (by omega)
          have c7 := arr8_cell HS.out 7 (by omega)
          simp only [S8.get] at c0 c1 c2 c3 c4 c5 c6 c7
          obtain ⟨i2, hi2⟩ : ∃ x, x = i + 64 := ⟨_, rfl⟩
          have hpc := HPC.out
          have e1 : IntKind.i64.wrap ((i : Int) + 64) = (i2 : Int) := by rw [IntWalk.i64_in _ (by have := HM9.out; omega)]; omega
          have u1 : (i2 : Int) ≤ pc := by omega
          have u2 : (i : Int) ≤ i2 := by omega
          have u3 : ¬ pc = i := by omega
          have HI2 := aside hi2
          have u4 : i2 - i = 64 := by omega
          have HIM := aside hiM
          clear hz hblk hi hgk hlt hiM hi2 hpc
          go_upto_region 12 with fail
          go_still_tail 7, (by kernel_rfl)
          go_wp2_with fail
          have h64 : 64 ≤ pc - i := by omega
          refine (block_any z HZ.out blk pb i (pc - i) h64 refK kb 0 kc wr.drew (HBA.out.on (new_drew _)) (HK.out.on (new_drew _))).mono ?_
          rintro e w5 ⟨rfl, hb5⟩
          rw [← HZN.out]
          obtain ⟨zz, hzz⟩ : ∃ zz, zz = blocksF refK refF P (n + 1) := ⟨_, rfl⟩
          rw [← hzz]
          have hb5' : Below wr.heap.size wr w5 := new_trans (new_drew wr) hb5
          have HS5 := aside (whole_new HS.out hb5')
          have HD5 := aside (whole_new HD.out hb5')
          have HK5 := aside (HK.out.on hb5')
          have HPB5 : Aside (pb < w5.heap.size ∧ ∀ j, j < M → w5.cell? ⟨pb, j, none⟩ = some (.int .u8 (byteOf P j))) := ⟨Nat.lt_of_lt_of_le HPB.out.1 hb5'.size, fun j hj => (hb5'.cell (p := ⟨pb, j, none⟩) HPB.out.1).trans (HPB.out.2 j hj)⟩
          have HB5 := aside (st_new w _ _ HB.out hb5')
          have hkD : kb ≠ D + 1 ∧ pb ≠ D + 1 := by
            have h1 := HKG.out
            have h2 := HPG.out
            omega
          have HZZ := aside hzz
          clear hb5 hb5' hzz c0 c1 c2 c3 c4 c5 c6 c7 e1 u1 u2 u3 u4 h64 HZ HZN HBA HS HD HK HPB HB
          have hi8 : (Tryz.prog.info? 134).map (·.size) = some (arr8 zz).size := by kernel_rfl
          obtain ⟨w6, hw6⟩ : ∃ x, x = w5.setRow (D + 1) (arr8 zz) := ⟨_, rfl⟩
          have HS6 : Aside (w6.heap[D + 1]? = some (.cells (arr8 (blocksF refK refF P (n + 1))) 134 (0, 0))) := by rw [Aside, hw6, ← HZZ.out]; exact setRow_heap w5 (D + 1) _ _ _ _ HS5.out
          have HD6 : Aside (w6.heap[D]? = some (.cells (Array.replicate 32 (.int .u8 0)) 33 (0, 0))) := by rw [Aside, hw6, setRow_other w5 (D + 1) D _ (by omega)]; exact HD5.out
          have HK6 : Aside (KAt refK kb 0 w6) := ⟨by rw [hw6, setRow_size]; exact HK5.out.1, fun j hj => by rw [hw6, cell_setRow_other w5 (D + 1) _ _ hkD.1]; exact HK5.out.2 j hj⟩
          have HPB6 : Aside (pb < w6.heap.size ∧ ∀ j, j < M → w6.cell? ⟨pb, j, none⟩ = some (.int .u8 (byteOf P j))) := ⟨by rw [hw6, setRow_size]; exact HPB5.out.1, fun j hj => by rw [hw6, cell_setRow_other w5 (D + 1) _ _ hkD.2]; exact HPB5.out.2 j hj⟩
          have HB6 : Aside (Below w.heap.size w w6) := by rw [Aside, hw6]; exact below_setRow HB5.out (by have := HDW.out; omega) _
          have HW6 := aside hw6
          have hone : (arr8 zz).all (·.oneCell') = true := all8 _ _ _ _ _ _ _ _
          clear hw6 HD5 HK5 HPB5 HB5 hkD
          go_wp2_with (first
            | (refine wpList_store_row rfl _ _ _ rfl (D + 1) (arr8 zz) rfl rfl 134 _ HS5.out hi8 rfl hone ?_; rw [← HW6.out])
            | fail)
          have hb9 : i ≤ 1000001000 := by have := HM9.out; have := HIM.out; omega
          clear HS5 hi8 hone
          go_wp2_with fail
          go_roundg (N - (n + 1))
          case measure => exact HM.out
          case rel => exact ⟨n + 1, i + 64, congrArg (Value.int .i64) (by rw [IntWalk.wrap64_in _ (by omega)]; omega), by have := HIM.out; omega, by have := HI.out; rw [Aside]; omega, by omega, HS6, HD6, HK6, HPB6, HB6⟩
        · have hzi : ¬ (i : Int) < M := by omega
          have hnN : n = N := by have := HI.out; have := HMN.out; omega
          have HS7 : Aside (wr.heap[D + 1]? = some (.cells (arr8 RES) 134 (0, 0))) := by rw [Aside, HRE.out, ← hnN]; exact HS.out
          clear HS HK HPB hi hgk hlt hnN
          go_wp2_with fail
          rw [z32]
          obtain ⟨E, hE⟩ : ∃ x, x = wr.heap.size := ⟨_, rfl⟩
          obtain ⟨w8, hw8⟩ : ∃ x, x = wr.alloc (.cells (Array.replicate 32 (.int .u8 0)) 33) := ⟨_, rfl⟩
          have HG8 : Aside (DgAt E RES 0 w8) := by rw [Aside, hw8, hE]; exact ⟨_, heap_new _ _, by simp, fun j hj => by omega⟩
          have HS8 : Aside (w8.heap[D + 1]? = some (.cells (arr8 RES) 134 (0, 0))) := by rw [Aside, hw8]; exact whole_new HS7.out (new_alloc _ _)
          have HD8 : Aside (w8.heap[D]? = some (.cells (Array.replicate 32 (.int .u8 0)) 33 (0, 0))) := by rw [Aside, hw8]; exact whole_new HD.out (new_alloc _ _)
          have HB8 : Aside (Below w.heap.size w w8) := by rw [Aside, hw8]; exact st_new w _ _ HB.out (new_alloc _ _)
          have hDE : D + 1 < E := by rw [hE]; exact whole_lt HS7.out
          have HED := aside hDE
          rw [← hw8, ← hE]
          clear hw8 hE hDE HS7 HD HB
          go_loopg [10] 32 (fun gk v10 wr => ∃ i : Nat, v10 = .int .i64 i ∧ i ≤ 32 ∧ 32 - i ≤ gk ∧ Aside (DgAt E RES i wr) ∧ Aside (wr.heap[D + 1]? = some (.cells (arr8 RES) 134 (0, 0))) ∧ Aside (wr.heap[D]? = some (.cells (Array.replicate 32 (.int .u8 0)) 33 (0, 0))) ∧ Aside (Below w.heap.size w wr))
          case atStart => exact ⟨0, rfl, by omega, by omega, HG8, HS8, HD8, HB8⟩
          case round =>
            clear HG8 HS8 HD8 HB8
            obtain ⟨i, rfl, hi, hgk, HG, HS, HD, HB⟩ := hrel
            by_cases h32 : i < 32
            · have hz32 : (i : Int) < 32 := by omega
              have HM : Aside (32 - (i + 1) < gk ∧ i + 1 ≤ 32) := ⟨by omega, by omega⟩
              obtain ⟨q, hq⟩ : ∃ q, q = i / 4 := ⟨_, rfl⟩
              have hq8 : q < 8 := by omega
              have hz8 : (q : Int) < 8 := by omega
              have htd : (i : Int).tdiv 4 = (q : Int) := by rw [hq]; rfl
              have c0 := arr8_cell HS.out q hq8
              have HXV : Aside (dgB RES i = RES.get q / 2 ^ (24 - 8 * (i % 4)) % 256) := by rw [Aside, hq]; rfl
              obtain ⟨x, hx⟩ : ∃ x, x = RES.get q := ⟨_, rfl⟩
              rw [← hx] at c0 HXV
              obtain ⟨u, c1, f1⟩ := HG.out.cell i h32
              have HGS : Aside (∀ x, x = dgB RES i → DgAt E RES (i + 1) (wr.setCell ⟨E, i, none⟩ (.int .u8 x))) := fun x hx => HG.out.set h32 x hx
              have HS2 : Aside (∀ v, (wr.setCell ⟨E, i, none⟩ v).heap[D + 1]? = some (.cells (arr8 RES) 134 (0, 0))) := fun v => whole_other HS.out (by have := HED.out; omega) _ _
              have HD2 : Aside (∀ v, (wr.setCell ⟨E, i, none⟩ v).heap[D]? = some (.cells (Array.replicate 32 (.int .u8 0)) 33 (0, 0))) := fun v => whole_other HD.out (by have := HED.out; omega) _ _
              have HB2 : Aside (∀ v, Below w.heap.size w (wr.setCell ⟨E, i, none⟩ v)) := fun v => HB.out.setCell (p := ⟨E, i, none⟩) (by show w.heap.size ≤ E; have := HED.out; have := HDW.out; omega) _
              have h4 : i % 4 = 0 ∨ i % 4 = 1 ∨ i % 4 = 2 ∨ i % 4 = 3 := by omega
              clear hq hx hi hgk HG HS HD HB hq8
              rcases h4 with h4 | h4 | h4 | h4
              · have htm : (i : Int).tmod 4 = 0 := by
                  have : (i : Int).tmod 4 = ((i % 4 : Nat) : Int) := rfl
                  rw [this, h4]; rfl
                have HV : Aside (x / 16777216 % 256 = dgB RES i) := by rw [Aside, HXV.out, h4]; rfl
                clear h4
                go_wp2_with fail
                go_roundg (32 - (i + 1))
                case measure => exact HM.out.1
                case rel => exact ⟨i + 1, by go_num, HM.out.2, by omega, HGS.out _ HV.out, HS2.out _, HD2.out _, HB2.out _⟩
              · have htm : (i : Int).tmod 4 = 1 := by
                  have : (i : Int).tmod 4 = ((i % 4 : Nat) : Int) := rfl
                  rw [this, h4]; rfl
                have HV : Aside (x / 65536 % 256 = dgB RES i) := by rw [Aside, HXV.out, h4]; rfl
                clear h4
                go_wp2_with fail
                go_roundg (32 - (i + 1))
                case measure => exact HM.out.1
                case rel => exact ⟨i + 1, by go_num, HM.out.2, by omega, HGS.out _ HV.out, HS2.out _, HD2.out _, HB2.out _⟩
              · have htm : (i : Int).tmod 4 = 2 := by
                  have : (i : Int).tmod 4 = ((i % 4 : Nat) : Int) := rfl
                  rw [this, h4]; rfl
                have HV : Aside (x / 256 % 256 = dgB RES i) := by rw [Aside, HXV.out, h4]; rfl
                clear h4
                go_wp2_with fail
                go_roundg (32 - (i + 1))
                case measure => exact HM.out.1
                case rel => exact ⟨i + 1, by go_num, HM.out.2, by omega, HGS.out _ HV.out, HS2.out _, HD2.out _, HB2.out _⟩
              · have htm : (i : Int).tmod 4 = 3 := by
                  have : (i : Int).tmod 4 = ((i % 4 : Nat) : Int) := rfl
                  rw [this, h4]; rfl
                have HV : Aside (x % 256 = dgB RES i) := by rw [Aside, HXV.out, h4]; simp
                clear h4
                go_wp2_with fail
                go_roundg (32 - (i + 1))
                case measure => exact HM.out.1
                case rel => exact ⟨i + 1, by go_num, HM.out.2, by omega, HGS.out _ HV.out, HS2.out _, HD2.out _, HB2.out _⟩
            · have hz32 : ¬ (i : Int) < 32 := by omega
              obtain rfl : i = 32 := by omega
              have HGF := aside HG.out.full
              have hi0 : (Tryz.prog.info? 33).map (·.size) = some (digestA RES).size := by rw [digestA_size]; kernel_rfl
              have HBE : Aside (Below w.heap.size w (wr.setRow D (digestA RES))) := below_setRow HB.out (by have := HDW.out; omega) _
              have HHE : Aside ((wr.setRow D (digestA RES)).heap[D]? = some (.cells (digestA RES) 33 (0, 0))) := setRow_heap wr D _ _ _ _ HD.out
              clear hi hgk h32 HG HS HB
              go_wp2_with (first
                | (refine wpList_load_row rfl _ _ rfl E rfl _ (digestA RES) (0, 0) _ HGF.out Tryz.underlying33 rfl hi0 ?_)
                | (refine wpList_store_row rfl _ _ _ rfl D (digestA RES) rfl rfl 33 _ HD.out hi0 (by rw [digestA_size]; rfl) (digestA_one RES) ?_)
                | fail)
              exact bodyPost_ret (results_cell_row rfl _ _ D 33 (digestA RES) (0, 0) _ rfl HHE.out Tryz.underlying33 rfl hi0) rfl ⟨rfl, HBE.out⟩
end Go.Proofs.YtkpmcjfolncmmaaGreatDoor
