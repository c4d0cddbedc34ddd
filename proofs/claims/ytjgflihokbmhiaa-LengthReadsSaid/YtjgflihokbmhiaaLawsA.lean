/- The walk of the law LengthReads. -/
import Derived.Test.YtjgflihokbmhiaaLenH
import Derived.Test.YtjgflihokbmhiaaRow
namespace Go.Proofs.Ytjgflihokbmhiaa
open Go.RowKit Go.Shelf

set_option maxRecDepth 100000 in
set_option maxHeartbeats 400000 in
theorem walk_LengthReads (a : Option Addr) (n cap : Nat) (l : List UInt8) (w : World) (h : RowAt w a n cap (bs l)) :
    Calls Try.prog 3 #[.slice a n cap] w fun e w' => e = .returned (.bool true) ∧ Below w.heap.size w w' := by
  have hmax := h.max
  have hle := h.le
  unfold maxLen at hmax
  by_cases hn : 100 < n
  · go_enter Try.func3, Try.ntmps3
    go_wp2_with (go_at_call 12; refine (known15 _).mono ?_; rintro e w1 ⟨rfl, hb⟩)
    go_ret
    exact ⟨rfl, hb⟩
  · have C1 := hid (len_read a n cap l w h)
    generalize hq : readL l = q at C1
    obtain ⟨N, S, E⟩ := q
    have HQ := hid hq; clear hq
    go_enter Try.func3, Try.ntmps3
    go_wp2_with fail
    refine C1.out.mono ?_
    rintro e w1 ⟨rfl, hb1⟩
    have C2 := hid (ref_read a n cap l w1 (h.below hb1))
    rw [HQ.out] at C2
    clear C1
    go_wp2_with fail
    refine C2.out.mono ?_
    rintro e w2 ⟨rfl, rfl⟩
    go_wp2_with fail
    refine (known15 _).mono ?_
    rintro e w3 ⟨rfl, hb3⟩
    go_wp2
    go_ret
    exact ⟨rfl, hb1.trans (hb3.mono hb1.size)⟩
end Go.Proofs.Ytjgflihokbmhiaa
