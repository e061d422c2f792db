import Derived.Test.YtinkifhbpbkhpaaSane
import Derived.Test.YtinkifhbpbkhpaaRset
import Derived.Lib.SmallJoins
namespace Go.Proofs.Ytinkifhbpbkhpaa
open Go.RowKit

theorem runsL_len (f : Nat → Bool) : (runsL f).length ≤ 100000 := by have := runsTo_len f 1024; unfold runsL; omega
theorem cells31 : Try.prog.cellsOf 31 = 2 := by kernel_rfl
theorem same_to (a a' : Option Addr) (cap cap' : Nat) (L M : SL) (h : L = M) (w : World) (hsp : Sp w a L) (hsp' : Sp w a' M) (hl : L.length ≤ 100000) :
    Calls Try.prog 14 #[.slice a L.length cap, .slice a' M.length cap'] w fun e w' => e = .returned (.bool true) ∧ Below w.heap.size w w' := by
  subst h
  exact same_eq a a' cap cap' L w hsp hsp' hl
theorem dayF_runsL (f : Nat → Bool) {d : Nat} (h : d < 1024) : dayF (runsL f) d = f d := by
  have := anyR_runsTo f 1024 d
  simp only [h, decide_true, Bool.true_and] at this
  exact this
theorem dayF_of {f : Nat → Bool} {x : SL} (E : runsL f = x) {d : Nat} (h : d < 1024) : dayF x d = f d := by rw [← E]; exact dayF_runsL f h
theorem len_of {f : Nat → Bool} {x : SL} (E : runsL f = x) : x.length ≤ 100000 := by rw [← E]; exact runsL_len f
theorem few_of {n : Nat} (h : n ≤ 40) : n ≤ 100000 := by omega
end Go.Proofs.Ytinkifhbpbkhpaa
