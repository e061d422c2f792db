import Derived.Test.YtinkifhbpbkhpaaCombB
import Derived.Test.YtinkifhbpbkhpaaCombC
import Derived.Test.YtinkifhbpbkhpaaCombD
import Derived.Test.YtinkifhbpbkhpaaCombE
namespace Go.Proofs.Ytinkifhbpbkhpaa
open Go.RowKit

theorem normal_any (a : Option Addr) (cap : Nat) (L : SL) (w : World) (hsp : Sp w a L) (hl : L.length ≤ 100000) :
    Calls Try.prog 15 #[.slice a L.length cap] w fun e w' => SpanR (runsL (dayF L)) e w' ∧ Below w.heap.size w w' := by
  go_enter Try.func15, Try.ntmps15
  go_wp2_with fail
  refine (comb29 a none cap 0 L [] _ hsp (fun i hi => by simp at hi) hl (by simp)).mono ?_
  rintro e w2 ⟨⟨a2, c2, rfl, hs2⟩, hb2⟩
  have HS := Lib.hid hs2
  have HB2 := Lib.hid hb2
  clear hs2 hb2
  go_wp2
  go_ret
  exact ⟨⟨a2, c2, rfl, HS.out⟩, HB2.out⟩

theorem union_any (a a' : Option Addr) (cap cap' : Nat) (L M : SL) (w : World) (hsp : Sp w a L) (hsp' : Sp w a' M) (hl : L.length ≤ 100000) (hl' : M.length ≤ 100000) :
    Calls Try.prog 17 #[.slice a L.length cap, .slice a' M.length cap'] w fun e w' => SpanR (runsL fun d => dayF L d || dayF M d) e w' ∧ Below w.heap.size w w' := by
  go_enter Try.func17, Try.ntmps17
  go_wp2_with fail
  refine (comb32 a a' cap cap' L M _ hsp hsp' hl hl').mono ?_
  rintro e w2 ⟨⟨a2, c2, rfl, hs2⟩, hb2⟩
  have HS := Lib.hid hs2
  have HB2 := Lib.hid hb2
  clear hs2 hb2
  go_wp2
  go_ret
  exact ⟨⟨a2, c2, rfl, HS.out⟩, HB2.out⟩

theorem meet_any (a a' : Option Addr) (cap cap' : Nat) (L M : SL) (w : World) (hsp : Sp w a L) (hsp' : Sp w a' M) (hl : L.length ≤ 100000) (hl' : M.length ≤ 100000) :
    Calls Try.prog 19 #[.slice a L.length cap, .slice a' M.length cap'] w fun e w' => SpanR (runsL fun d => dayF L d && dayF M d) e w' ∧ Below w.heap.size w w' := by
  go_enter Try.func19, Try.ntmps19
  go_wp2_with fail
  refine (comb33 a a' cap cap' L M _ hsp hsp' hl hl').mono ?_
  rintro e w2 ⟨⟨a2, c2, rfl, hs2⟩, hb2⟩
  have HS := Lib.hid hs2
  have HB2 := Lib.hid hb2
  clear hs2 hb2
  go_wp2
  go_ret
  exact ⟨⟨a2, c2, rfl, HS.out⟩, HB2.out⟩

theorem minus_any (a a' : Option Addr) (cap cap' : Nat) (L M : SL) (w : World) (hsp : Sp w a L) (hsp' : Sp w a' M) (hl : L.length ≤ 100000) (hl' : M.length ≤ 100000) :
    Calls Try.prog 21 #[.slice a L.length cap, .slice a' M.length cap'] w fun e w' => SpanR (runsL fun d => dayF L d && !(dayF M d)) e w' ∧ Below w.heap.size w w' := by
  go_enter Try.func21, Try.ntmps21
  go_wp2_with fail
  refine (comb34 a a' cap cap' L M _ hsp hsp' hl hl').mono ?_
  rintro e w2 ⟨⟨a2, c2, rfl, hs2⟩, hb2⟩
  have HS := Lib.hid hs2
  have HB2 := Lib.hid hb2
  clear hs2 hb2
  go_wp2
  go_ret
  exact ⟨⟨a2, c2, rfl, HS.out⟩, HB2.out⟩

end Go.Proofs.Ytinkifhbpbkhpaa
