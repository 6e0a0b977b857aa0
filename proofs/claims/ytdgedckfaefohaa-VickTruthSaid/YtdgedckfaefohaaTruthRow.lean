/- consignlaw21.VickTruth, as the row wants it. -/
import Derived.Test.YtdgedckfaefohaaTruthWalk
import Derived.Test.YtdgedckfaefohaaOpenTwo
namespace Go.Proofs.Ytdgedckfaefohaa
open Go.RowKit Go.Sort
open Go.Proofs.Ytdgedckfaefohaa.Srt Go.Proofs.Ytdgedckfaefohaa.Vk

theorem truth_row (bs : List Bd) (v : Value) (r c x y z : Int) (w : World) (hv : BidsAt w v bs) (_ : ∀ a n c, v = .slice a n c → n ≤ c) (hn : bs.length ≤ 9223372036854775807) (hb : ∀ b ∈ bs, 0 ≤ b.2 ∧ b.2 ≤ 18446744073709551615) (hr : (Lit.int .u64 r).wf = true) (_ : (Lit.int .i64 c).wf = true) (hx : (Lit.int .u64 x).wf = true) (hy : (Lit.int .u64 y).wf = true) (hz : (Lit.int .u8 z).wf = true) :
    Calls Try.prog 5 #[v, .int .u64 r, .int .i64 c, .agg #[.int .u64 x, .int .u64 y], .int .u8 z] w fun e w' => e = .returned (.bool true) ∧ Below w.heap.size w w' := truth_law bs v r c x y z w hv hn hb (wf_u64 hr) (wf_u64 hx) (wf_u64 hy) (wf_u8 hz)

end Go.Proofs.Ytdgedckfaefohaa
