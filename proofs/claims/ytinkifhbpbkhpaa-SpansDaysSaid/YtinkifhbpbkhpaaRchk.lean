import Derived.Test.YtinkifhbpbkhpaaScan2
import Derived.Laws.StructEq
import Derived.Deep.QuietTactic
import Derived.BigQuiet
namespace Go.Proofs.Ytinkifhbpbkhpaa
open Go.RowKit

set_option maxHeartbeats 1000000 in
theorem rcheck_any (a : Option Addr) (cap : Nat) (L : SL) (w : World) (hsp : Sp w a L) (hl : L.length ≤ 100000) :
    Calls Try.prog 13 #[.slice a L.length cap] w fun e w' => e = .returned (.int .i64 (chkE L)) ∧ Below w.heap.size w w' := by
  have Hsp := Lib.hid hsp
  clear hsp
  go_enter Try.func13, Try.ntmps13
  go_wp2
  go_loopw [3] (fun i wr => ∃ k : Nat, k ≤ L.length ∧ i = .int .i64 k ∧ Hid (PreP okS L k) ∧ Below w.heap.size w wr) (fun i _ => L.length - (intOf i).toNat)
  case atStart => exact ⟨0, Nat.zero_le _, rfl, PreP.zero, Below.refl _ _⟩
  case round =>
    obtain ⟨k, hk, rfl, Hn, hbw⟩ := hrel
    have hsz := hbw.size
    by_cases hlt : k < L.length
    · obtain ⟨b, off, rfl, hb, c0, c1⟩ := Hsp.out k hlt
      rw [← hbw.cell (p := ⟨b, _, none⟩) hb] at c0 c1
      generalize hf : L[k].1 = f at *
      generalize ht : L[k].2 = t at *
      have Hf := Lib.hid hf
      have Ht := Lib.hid ht
      clear hf ht
      by_cases hg : 0 ≤ f ∧ f < t ∧ t ≤ 1024
      · obtain ⟨g1, g2, g3⟩ := hg
        have d1 : decide (f < 0) = false := by simp; omega
        go_wp2
        go_quiet (fail)
        go_wp2
        go_roundw
        case rel => exact ⟨k + 1, by omega, by go_num, Hn.out.succ hlt (okS_yes (by rw [Hf.out]; exact g1) (by rw [Hf.out, Ht.out]; exact g2) (by rw [Ht.out]; exact g3)), below_drewN hbw _⟩
        case measure => simp [intOf]; omega
      · have hno : f < 0 ∨ t ≤ f ∨ 1024 < t := by omega
        have hall : L.all okS = false := not_all hlt (okS_no (by rw [Hf.out, Ht.out]; exact hno))
        have Hall := Lib.hid hall
        clear hall
        by_cases q1 : f < 0
        · have d1 : decide (f < 0) = true := by simpa using q1
          clear hno
          go_wp2
          go_quiet (fail)
          go_wp2
          go_ret
          exact ⟨ret_int (by rw [chkE, Hall.out]; rfl), below_drewN hbw _⟩
        · have d1 : decide (f < 0) = false := by simpa using q1
          by_cases q2 : t ≤ f
          · have d2 : decide (t ≤ f) = true := by simpa using q2
            clear hno
            go_wp2
            go_quiet (fail)
            go_wp2
            go_ret
            exact ⟨ret_int (by rw [chkE, Hall.out]; rfl), below_drewN hbw _⟩
          · have d2 : decide (t ≤ f) = false := by simpa using q2
            have q3 : 1024 < t := by omega
            have d3 : decide (1024 < t) = true := by simpa using q3
            clear hno
            go_wp2
            go_quiet (fail)
            go_wp2
            go_ret
            exact ⟨ret_int (by rw [chkE, Hall.out]; rfl), below_drewN hbw _⟩
    · have hkl : L.length ≤ k := by omega
      go_wp2
      go_ret
      exact ⟨ret_int (by rw [chkE, Hn.out.all hkl]; rfl), hbw⟩


end Go.Proofs.Ytinkifhbpbkhpaa
