import Derived.Test.YtinkifhbpbkhpaaScan
import Derived.Deep.QuietTactic
import Derived.BigQuiet
namespace Go.Proofs.Ytinkifhbpbkhpaa
open Go.RowKit

theorem few_any (a : Option Addr) (n cap : Nat) (w : World) :
    Calls Try.prog 11 #[.slice a n cap] w fun e w' => e = .returned (.bool (decide (n ≤ 40))) ∧ w = w' := by
  go_enter Try.func11, Try.ntmps11
  go_wp2
  go_ret
  exact ⟨ret_bool (by rw [Bool.eq_iff_iff]; simp; omega), rfl⟩

set_option maxHeartbeats 400000 in
theorem rhas_any (a : Option Addr) (cap : Nat) (L : SL) (d : Int) (w : World) (hsp : Sp w a L) (hl : L.length ≤ 100000) :
    Calls Try.prog 24 #[.slice a L.length cap, .int .i64 d] w fun e w' => e = .returned (.bool (hasB L d)) ∧ Below w.heap.size w w' := by
  have Hsp := Lib.hid hsp
  clear hsp
  by_cases h0 : 0 ≤ d
  case neg =>
    go_enter Try.func24, Try.ntmps24
    go_wp2
    go_ret
    exact ⟨ret_bool (hasB_out (by omega)).symm, Below.refl _ _⟩
  by_cases h1 : d < 1024
  case neg =>
    go_enter Try.func24, Try.ntmps24
    go_wp2
    go_ret
    exact ⟨ret_bool (hasB_out (by omega)).symm, Below.refl _ _⟩
  go_enter Try.func24, Try.ntmps24
  go_wp2
  go_loopw [5] (fun i wr => ∃ k : Nat, k ≤ L.length ∧ i = .int .i64 k ∧ Hid (PreP (fun s => !(inS d s)) L k) ∧ Below w.heap.size w wr) (fun i _ => L.length - (intOf i).toNat)
  case atStart => exact ⟨0, Nat.zero_le _, rfl, PreP.zero, Below.refl _ _⟩
  case round =>
    obtain ⟨k, hk, rfl, Hn, hbw⟩ := hrel
    have hsz := hbw.size
    by_cases hlt : k < L.length
    · obtain ⟨b, off, rfl, hb, c0, c1⟩ := Hsp.out k hlt
      rw [← hbw.cell (p := ⟨b, _, none⟩) hb] at c0 c1
      generalize hf : L[k].1 = f at *
      generalize ht : L[k].2 = t at *
      have Hf := Lib.hid hf
      have Ht := Lib.hid ht
      clear hf ht
      go_wp2
      · go_ret
        exact ⟨ret_bool (hasB_yes h0 h1 hlt (by rw [Hf.out]; assumption) (by rw [Ht.out]; assumption)).symm, hbw⟩
      all_goals
        go_roundw
        case rel => exact ⟨k + 1, by omega, by go_num, Hn.out.succ hlt (by rw [inS_no (by rw [Hf.out, Ht.out]; omega)]; rfl), hbw⟩
        case measure => simp [intOf]; omega
    · have hkl : L.length ≤ k := by omega
      go_wp2
      go_ret
      exact ⟨ret_bool (hasB_no Hn.out hkl).symm, hbw⟩

def okS (s : Int × Int) : Bool := decide (0 ≤ s.1) && decide (s.1 < s.2) && decide (s.2 ≤ 1024)
theorem okS_yes {s : Int × Int} (h1 : 0 ≤ s.1) (h2 : s.1 < s.2) (h3 : s.2 ≤ 1024) : okS s = true := by simp [okS, h1, h2, h3]
theorem okS_no {s : Int × Int} (h : s.1 < 0 ∨ s.2 ≤ s.1 ∨ 1024 < s.2) : okS s = false := by
  unfold okS; rw [← Bool.decide_and, ← Bool.decide_and]; simp; omega
def chkE (L : SL) : Int := if L.all okS then 0 else 30

set_option maxHeartbeats 400000 in
theorem check_any (a : Option Addr) (cap : Nat) (L : SL) (w : World) (hsp : Sp w a L) (hl : L.length ≤ 100000) :
    Calls Try.prog 12 #[.slice a L.length cap] w fun e w' => e = .returned (.int .i64 (chkE L)) ∧ Below w.heap.size w w' := by
  have Hsp := Lib.hid hsp
  clear hsp
  go_enter Try.func12, Try.ntmps12
  go_wp2
  go_loopw [7] (fun i wr => ∃ k : Nat, k ≤ L.length ∧ i = .int .i64 k ∧ Hid (PreP okS L k) ∧ Below w.heap.size w wr) (fun i _ => L.length - (intOf i).toNat)
  case atStart => exact ⟨0, Nat.zero_le _, rfl, PreP.zero, Below.refl _ _⟩
  case round =>
    obtain ⟨k, hk, rfl, Hn, hbw⟩ := hrel
    have hsz := hbw.size
    by_cases hlt : k < L.length
    · obtain ⟨b, off, rfl, hb, c0, c1⟩ := Hsp.out k hlt
      rw [← hbw.cell (p := ⟨b, _, none⟩) hb] at c0 c1
      generalize hf : L[k].1 = f at *
      generalize ht : L[k].2 = t at *
      have Hf := Lib.hid hf
      have Ht := Lib.hid ht
      clear hf ht
      by_cases hg : 0 ≤ f ∧ f < t ∧ t ≤ 1024
      · obtain ⟨g1, g2, g3⟩ := hg
        go_wp2
        go_roundw
        case rel => exact ⟨k + 1, by omega, by go_num, Hn.out.succ hlt (okS_yes (by rw [Hf.out]; exact g1) (by rw [Hf.out, Ht.out]; exact g2) (by rw [Ht.out]; exact g3)), hbw.alloc hsz _⟩
        case measure => simp [intOf]; omega
      · have hno : f < 0 ∨ t ≤ f ∨ 1024 < t := by omega
        have hall : L.all okS = false := not_all hlt (okS_no (by rw [Hf.out, Ht.out]; exact hno))
        have Hall := Lib.hid hall
        clear hall
        by_cases q1 : f < 0
        all_goals by_cases q2 : t ≤ f
        all_goals by_cases q3 : 1024 < t
        all_goals try omega
        all_goals
          go_wp2
          go_ret
          exact ⟨ret_int (by rw [chkE, Hall.out]; rfl), hbw.alloc hsz _⟩
    · have hkl : L.length ≤ k := by omega
      go_wp2
      go_ret
      exact ⟨ret_int (by rw [chkE, Hn.out.all hkl]; rfl), hbw⟩


end Go.Proofs.Ytinkifhbpbkhpaa
