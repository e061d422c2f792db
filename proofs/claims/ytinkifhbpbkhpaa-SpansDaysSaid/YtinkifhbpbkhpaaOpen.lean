import Derived.Test.YtinkifhbpbkhpaaBase
import Derived.ProofKit
import Derived.OpenShut
import Derived.ShutString
import Derived.ChangeOld
import Derived.Deep.SlicePairs
namespace Go.Proofs.Ytinkifhbpbkhpaa
open Go.ChangeShapes Go.WideShapes Go.ChangeAt Go.RowKit

theorem own : ownKnob Try.prog.godebug = none := by kernel_rfl
theorem laidOut : laidOutB Try.prog = true := by kernel_rfl

theorem add_none (b o j : Nat) : (⟨b, o, none⟩ : Addr).add j = ⟨b, o + j, none⟩ := by unfold Addr.add; split <;> simp_all

theorem open_sp {H : Type} {enc : TypeId × Value → H} {w : World} {spare : Nat → Bool} {held : Bool} {a : Option Addr} {n cap : Nat} {d : DataW H} {p : List MemPlace}
    (h : DataW.Trod enc Try.prog w 0 spare held 22 (.slice a n cap) d p) : ∃ L : SL, n = L.length ∧ Sp w a L := by
  obtain ⟨fuel, hf⟩ := h
  rcases Go.Deep.open_slice_pairs Try.underlying22 Try.underlying31 (by kernel_rfl) rfl rfl (by kernel_rfl) (by kernel_rfl) hf with ⟨hcs, _⟩ | ⟨x, len, c, m, k, V0, V1, D0, D1, P0, P1, hcs, _, hl, hm, hmm, _, hx⟩
  · simp [Value.cells] at hcs
    obtain ⟨rfl, rfl, rfl⟩ := hcs
    exact ⟨[], rfl, fun i hi => by simp at hi⟩
  · simp [Value.cells] at hcs
    obtain ⟨rfl, rfl, rfl⟩ := hcs
    have hlm : n ≤ m := by rw [hmm]; split <;> omega
    have e0 : ∀ i, i < m → ∃ z : Int × Int, V0 i = .int .i64 z.1 ∧ V1 i = .int .i64 z.2 := fun i hi => by
      obtain ⟨_, _, h2, h3⟩ := hx i hi
      obtain ⟨z0, h4, _, _⟩ := DataW.trod_int Try.underlying3 h2
      obtain ⟨z1, h5, _, _⟩ := DataW.trod_int Try.underlying3 h3
      simp at h4 h5
      exact ⟨(z0, z1), h4, h5⟩
    obtain ⟨z, hz⟩ := Go.Deep.choose_lt e0
    refine ⟨(List.range n).map z, by simp, fun i hi => ?_⟩
    have hi' : i < n := by simpa using hi
    obtain ⟨b, off, spot⟩ := x
    obtain ⟨h0, h1, _, _⟩ := hx i (by omega)
    obtain ⟨q0, q1⟩ := hz i (by omega)
    have hc := (hx 0 (by omega)).1
    have hspot : spot = none := by simpa [Addr.add] using World.cell?_spot hc
    subst hspot
    rw [add_none, q0] at h0
    rw [add_none, q1] at h1
    refine ⟨b, off, rfl, World.block_lt_of_cell? w _ h0, ?_, ?_⟩
    · simpa using h0
    · simpa [Nat.add_assoc] using h1
end Go.Proofs.Ytinkifhbpbkhpaa
