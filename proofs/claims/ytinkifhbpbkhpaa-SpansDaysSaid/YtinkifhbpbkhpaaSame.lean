import Derived.Test.YtinkifhbpbkhpaaScan2
import Derived.Laws.StructEq
import Derived.Deep.QuietTactic
import Derived.BigQuiet
namespace Go.Proofs.Ytinkifhbpbkhpaa
open Go.RowKit

theorem st31 : Try.prog.stoodInHeld 31 = false := by kernel_rfl
@[go_sem] theorem eg31 : Try.prog.eqGuardType Try.prog.depth 31 = false := by kernel_rfl
theorem fo31 : Try.prog.underlying 31 = some (.struct (Try.prog.fieldsOf 31)) := by kernel_rfl
set_option maxHeartbeats 400000 in
theorem same_any (a a' : Option Addr) (cap cap' : Nat) (L M : SL) (w : World) (hsp : Sp w a L) (hsp' : Sp w a' M) (hl : L.length ≤ 100000) (hl' : M.length ≤ 100000) :
    Calls Try.prog 14 #[.slice a L.length cap, .slice a' M.length cap'] w fun e w' => e = .returned (.bool (decide (L = M))) ∧ Below w.heap.size w w' := by
  have Hsp := Lib.hid hsp
  have Hsp' := Lib.hid hsp'
  clear hsp hsp'
  by_cases hlen : L.length = M.length
  case neg =>
    go_enter Try.func14, Try.ntmps14
    go_wp2
    go_ret
    exact ⟨ret_bool (by symm; simp; intro e; exact hlen (by rw [e])), Below.refl _ _⟩
  have Hlen := Lib.hid hlen
  have hle1 : L.length ≤ M.length := by omega
  have hle2 : M.length ≤ L.length := by omega
  rw [← hlen]
  clear hlen
  go_enter Try.func14, Try.ntmps14
  go_wp2
  go_loopw [5] (fun i wr => ∃ k : Nat, k ≤ L.length ∧ i = .int .i64 k ∧ Hid (∀ i (h : i < L.length) (h' : i < M.length), i < k → L[i] = M[i]) ∧ Below w.heap.size w wr) (fun i _ => L.length - (intOf i).toNat)
  case atStart => exact ⟨0, Nat.zero_le _, rfl, (fun i _ _ h => absurd h (Nat.not_lt_zero i)), Below.refl _ _⟩
  case round =>
    obtain ⟨k, hk, rfl, Hn, hbw⟩ := hrel
    have hsz := hbw.size
    by_cases hlt : k < L.length
    · obtain ⟨b, off, rfl, hb, c0, c1⟩ := Hsp.out k hlt
      obtain ⟨b', off', rfl, hb', c0', c1'⟩ := Hsp'.out k (by omega)
      rw [← hbw.cell (p := ⟨b, _, none⟩) hb] at c0 c1
      rw [← hbw.cell (p := ⟨b', _, none⟩) hb'] at c0' c1'
      go_wp2
      have hle3 : (k : Int) < (M.length : Int) := by omega
      generalize hf : L[k].1 = f at *
      generalize ht : L[k].2 = t at *
      generalize hf' : (M[k]'(by omega)).1 = f' at *
      generalize ht' : (M[k]'(by omega)).2 = t' at *
      have Hf := Lib.hid hf
      have Ht := Lib.hid ht
      have Hf' := Lib.hid hf'
      have Ht' := Lib.hid ht'
      clear hf ht hf' ht'
      go_wp2
      by_cases he : f = f'
      · subst he
        by_cases he2 : t = t'
        · subst he2
          go_quiet (fail)
          go_wp2
          go_roundw
          case rel => exact ⟨k + 1, by omega, by go_num, (fun i h h' hi => by
            by_cases e : i = k
            · subst e; exact Prod.ext (Hf.out.trans Hf'.out.symm) (Ht.out.trans Ht'.out.symm)
            · exact Hn.out i h h' (by omega)), below_drewN hbw _⟩
          case measure => simp [intOf]; omega
        · go_quiet (fail)
          go_wp2
          go_ret
          exact ⟨ret_bool (by symm; simp; intro e; subst e; exact he2 (Ht.out.symm.trans Ht'.out)), below_drewN hbw _⟩
      · go_quiet (fail)
        go_wp2
        go_ret
        exact ⟨ret_bool (by symm; simp; intro e; subst e; exact he (Hf.out.symm.trans Hf'.out)), below_drewN hbw _⟩
    · have hkl : L.length ≤ k := by omega
      go_wp2
      go_ret
      exact ⟨ret_bool (by symm; simp; exact List.ext_getElem Hlen.out (fun i h h' => Hn.out i h h' (by omega))), hbw⟩
end Go.Proofs.Ytinkifhbpbkhpaa
