import Derived.Test.YtinkifhbpbkhpaaBase
namespace Go.Proofs.Ytinkifhbpbkhpaa
open Go.RowKit

def PreP {α : Type} (p : α → Bool) (L : List α) (k : Nat) : Prop := ∀ i (h : i < L.length), i < k → p L[i] = true
theorem PreP.zero {α : Type} {p : α → Bool} {L : List α} : PreP p L 0 := fun i _ hk => absurd hk (Nat.not_lt_zero i)
theorem PreP.succ {α : Type} {p : α → Bool} {L : List α} {k : Nat} (h : PreP p L k) (hk : k < L.length) (h' : p L[k] = true) : PreP p L (k + 1) := by
  intro i hi hik
  by_cases e : i = k
  · subst e; exact h'
  · exact h i hi (by omega)
theorem PreP.all {α : Type} {p : α → Bool} {L : List α} {k : Nat} (h : PreP p L k) (hk : L.length ≤ k) : L.all p = true := by
  rw [List.all_eq_true]
  intro s hs
  obtain ⟨i, hi, rfl⟩ := List.getElem_of_mem hs
  exact h i hi (by omega)
theorem not_all {α : Type} {p : α → Bool} {L : List α} {k : Nat} (hk : k < L.length) (h' : p L[k] = false) : L.all p = false := by
  rw [List.all_eq_false]
  exact ⟨L[k], List.getElem_mem hk, by simp [h']⟩

/-- a day in a span -/
def inS (d : Int) (s : Int × Int) : Bool := decide (s.1 ≤ d) && decide (d < s.2)
theorem anyB_not (L : SL) (d : Int) : anyB L d = !(L.all fun s => !(inS d s)) := by
  rw [List.not_all_eq_any_not]; simp [anyB, inS]
theorem inS_yes {d : Int} {s : Int × Int} (h1 : s.1 ≤ d) (h2 : d < s.2) : inS d s = true := by simp [inS, h1, h2]
theorem inS_no {d : Int} {s : Int × Int} (h : ¬ (s.1 ≤ d ∧ d < s.2)) : inS d s = false := by
  unfold inS; rw [← Bool.decide_and]; simpa using h
def hasB (L : SL) (d : Int) : Bool := decide (0 ≤ d) && decide (d < 1024) && anyB L d
theorem ret_bool {a b : Bool} (h : a = b) : Ending.returned (.bool a) = Ending.returned (.bool b) := by rw [h]
theorem ret_int {k : IntKind} {a b : Int} (h : a = b) : Ending.returned (.int k a) = .returned (.int k b) := by rw [h]
theorem hasB_no {L : SL} {d : Int} {k : Nat} (h : PreP (fun s => !(inS d s)) L k) (hk : L.length ≤ k) : hasB L d = false := by
  unfold hasB; rw [anyB_not, h.all hk]; simp
theorem hasB_yes {L : SL} {d : Int} {k : Nat} (h0 : 0 ≤ d) (h1 : d < 1024) (hk : k < L.length) (h2 : L[k].1 ≤ d) (h3 : d < L[k].2) : hasB L d = true := by
  unfold hasB; rw [anyB_not, not_all hk (by rw [inS_yes h2 h3]; rfl)]; simp [h0, h1]
theorem hasB_out {L : SL} {d : Int} (h : d < 0 ∨ 1024 ≤ d) : hasB L d = false := by
  unfold hasB
  rcases h with h | h
  · simp [show ¬ 0 ≤ d by omega]
  · simp [show ¬ d < 1024 by omega]

set_option maxHeartbeats 400000 in
theorem has_any (a : Option Addr) (cap : Nat) (L : SL) (d : Int) (w : World) (hsp : Sp w a L) (hl : L.length ≤ 100000) :
    Calls Try.prog 23 #[.slice a L.length cap, .int .i64 d] w fun e w' => e = .returned (.bool (hasB L d)) ∧ Below w.heap.size w w' := by
  have Hsp := Lib.hid hsp
  clear hsp
  by_cases h0 : 0 ≤ d
  case neg =>
    go_enter Try.func23, Try.ntmps23
    go_wp2
    go_ret
    exact ⟨ret_bool (hasB_out (by omega)).symm, Below.refl _ _⟩
  by_cases h1 : d < 1024
  case neg =>
    go_enter Try.func23, Try.ntmps23
    go_wp2
    go_ret
    exact ⟨ret_bool (hasB_out (by omega)).symm, Below.refl _ _⟩
  go_enter Try.func23, Try.ntmps23
  go_wp2
  go_loopw [15] (fun i wr => ∃ k : Nat, k ≤ L.length ∧ i = .int .i64 k ∧ Hid (PreP (fun s => !(inS d s)) L k) ∧ Below w.heap.size w wr) (fun i _ => L.length - (intOf i).toNat)
  case atStart => exact ⟨0, Nat.zero_le _, rfl, PreP.zero, Below.refl _ _⟩
  case round =>
    obtain ⟨k, hk, rfl, Hn, hbw⟩ := hrel
    have hsz := hbw.size
    by_cases hlt : k < L.length
    · obtain ⟨b, off, rfl, hb, c0, c1⟩ := Hsp.out k hlt
      rw [← hbw.cell (p := ⟨b, _, none⟩) hb] at c0 c1
      generalize hf : L[k].1 = f at *
      generalize ht : L[k].2 = t at *
      have Hf := Lib.hid hf
      have Ht := Lib.hid ht
      clear hf ht
      go_wp2
      · go_ret
        exact ⟨ret_bool (hasB_yes h0 h1 hlt (by rw [Hf.out]; assumption) (by rw [Ht.out]; assumption)).symm, hbw.alloc hsz _⟩
      all_goals
        go_roundw
        case rel => exact ⟨k + 1, by omega, by go_num, Hn.out.succ hlt (by rw [inS_no (by rw [Hf.out, Ht.out]; omega)]; rfl), hbw.alloc hsz _⟩
        case measure => simp [intOf]; omega
    · have hkl : L.length ≤ k := by omega
      go_wp2
      go_ret
      exact ⟨ret_bool (hasB_no Hn.out hkl).symm, hbw⟩
end Go.Proofs.Ytinkifhbpbkhpaa
