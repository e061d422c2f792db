/- SpansSpec: for every list of spans the law returns true and leaves its argument as it was. No condition. -/
import Derived.Test.YtinkifhbpbkhpaaSane
import Derived.Test.YtinkifhbpbkhpaaRchk
import Derived.Test.YtinkifhbpbkhpaaOpen
namespace Go.Proofs.Ytinkifhbpbkhpaa
open Go.ChangeShapes Go.WideShapes Go.ChangeAt Go.RowKit
set_option linter.unusedVariables false

namespace spansSpec
set_option maxHeartbeats 1000000 in
theorem walk (a : Option Addr) (cap : Nat) (L : SL) (w : World) (hsp : Sp w a L) :
    Calls Try.prog 3 #[.slice a L.length cap] w fun e w' => e = .returned (.bool true) ∧ Below w.heap.size w w' := by
  have HS := Lib.hid hsp
  clear hsp
  by_cases hl : L.length ≤ 40
  case neg =>
    have hq : decide (L.length ≤ 40) = false := by simpa using hl
    go_enter Try.func3, Try.ntmps3
    go_wp2_with fail
    refine (sane_any _).mono ?_
    rintro e w1 ⟨rfl, hb1⟩
    go_wp2_with fail
    refine (few_any _ _ _ _).mono ?_
    rintro e w2 ⟨rfl, rfl⟩
    go_wp2
    go_ret
    exact ⟨rfl, hb1⟩
  have hq : decide (L.length ≤ 40) = true := by simpa using hl
  have hl2 : L.length ≤ 100000 := by omega
  go_enter Try.func3, Try.ntmps3
  go_wp2_with fail
  refine (sane_any _).mono ?_
  rintro e w1 ⟨rfl, hb1⟩
  have S1 := Lib.hid (HS.out.below hb1)
  have B1 := Lib.hid hb1
  have z1 := hb1.size
  clear hb1
  go_wp2_with fail
  refine (few_any _ _ _ _).mono ?_
  rintro e w2 ⟨rfl, rfl⟩
  go_wp2_with fail
  refine (check_any _ _ L _ S1.out hl2).mono ?_
  rintro e w2 ⟨rfl, hb2⟩
  have S2 := Lib.hid (S1.out.below hb2)
  have B2 := Lib.hid (B1.out.trans (hb2.mono z1))
  have z2 := B2.out.size
  clear hb2 B1 S1 z1
  go_wp2_with fail
  refine (rcheck_any _ _ L _ S2.out hl2).mono ?_
  rintro e w3 ⟨rfl, hb3⟩
  have S3 := Lib.hid (S2.out.below hb3)
  have B3 := Lib.hid (B2.out.trans (hb3.mono z2))
  have z3 := B3.out.size
  clear hb3 B2 S2 z2
  generalize chkE L = ce at *
  go_wp2_with fail
  refine (normal_any _ _ L _ S3.out hl2).mono ?_
  rintro e w4 ⟨⟨a4, c4, rfl, h4⟩, hb4⟩
  have S4 := Lib.hid (S3.out.below hb4)
  have T4 := Lib.hid h4
  have B4 := Lib.hid (B3.out.trans (hb4.mono z3))
  have z4 := B4.out.size
  clear hb4 h4 B3 S3 z3
  go_wp2_with fail
  refine (rnormal_any _ _ L _ S4.out hl2).mono ?_
  rintro e w5 ⟨⟨a5, c5, rfl, h5⟩, hb5⟩
  have T5 := Lib.hid (T4.out.below hb5)
  have U5 := Lib.hid h5
  have B5 := Lib.hid (B4.out.trans (hb5.mono z4))
  have z5 := B5.out.size
  clear hb5 h5 B4 S4 T4 z4
  go_wp2_with fail
  refine (same_eq _ _ _ _ _ _ T5.out U5.out (by have := runsTo_len (dayF L) 1024; unfold runsL; omega)).mono ?_
  rintro e w6 ⟨rfl, hb6⟩
  have B6 := Lib.hid (B5.out.trans (hb6.mono z5))
  clear hb6 T5 U5 B5
  go_wp2
  go_ret
  exact ⟨rfl, B6.out⟩

set_option maxRecDepth 100000 in
theorem lifted (os : Os) (started : os.Started) (H : Type) (enc : TypeId × Value → H) :
    ReturnsInHanded {} Try.checked os 3 .any (Rows.spansSpecSpec.pre6 enc Try.prog Try.f3 Rows.spansSpecRow.domain false) (Rows.spansSpecSpec.post enc Try.prog Try.f3 false true false false) := by
  refine returnsInHanded_of_change (C := Try.checked) own started (by kernel_rfl) Try.func3
    (ChangeSpec.witness6 (enc := enc) (C := Try.checked) false ⟨#[], #[.slice none 0 0], []⟩ 8 (by kernel_rfl) (by kernel_rfl) (by kernel_rfl) (by kernel_rfl)) ?_
  intro W base args ds gs before hval0 hW hcnd _
  have hval : ∀ (j : Nat) t v, Try.f3.params[j]? = some t → args[j]? = some v → Value.okWide Try.prog W .any base t v := hval0
  have hW' := hW
  obtain ⟨p, q, hA0, hV, rfl, hfz, hnd⟩ := hW
  have hA : DataW.TrodAll enc Try.prog W 0 (fun _ => true) true Try.f3.params.toList args.toList ds p := hA0
  rw [Try.params3] at hA hval
  obtain ⟨v0, vs0, d0, ds0, p0, q0, hargs, rfl, rfl, h0, r0⟩ := trodAll_cons hA
  obtain ⟨rfl, rfl, rfl⟩ := trodAll_nil r0
  obtain rfl : args = #[v0] := by cases args; simp_all
  obtain ⟨rfl, rfl⟩ := trodVars_none hV
  obtain ⟨a0, n0, cap0, rfl⟩ := okWide_slice Try.underlying22 (hval 0 22 v0 rfl rfl)
  have k0 := h0
  have lt0 : ∀ x ∈ p0, x.block < W.heap.size := by obtain ⟨m, hm⟩ := k0; exact DataW.trod_lt m _ _ _ hm
  obtain ⟨L0, rfl, s0⟩ := open_sp h0
  clear hA0 hval0
  refine (walk a0 cap0 L0 W s0).mono fun e W' ⟨he, bel⟩ => ?_
  subst he
  exact ⟨_, rfl, _, _, _, [], _, [], hW', trodAll_mk1 (shut_bool Try.underlying4 _), (trodAll_cons_mk (Below.trod laidOut (by kernel_rfl) (of_decide_eq_true (by kernel_rfl)) k0 bel lt0) trodAll_mk0), rfl, bel.frame _, fun h => by cases h⟩

theorem over : Rows.spansSpecRow.holds Try.pinned (OpenSpec.ofChange Rows.spansSpecSpec) :=
  OpenClaim.holds_of_wide 3 Try.f3 rfl rfl rfl rfl rfl rfl rfl ⟨rfl, rfl, rfl, rfl, rfl⟩ rfl rfl rfl rfl rfl (by kernel_rfl) Try.func3 (by kernel_rfl)
    (of_decide_eq_true (by kernel_rfl)) (by unfold Func.isWrapper; first | (rw [if_pos (by decide +kernel)]; kernel_rfl) | (rw [if_neg (by decide +kernel)]; exact ⟨rfl, rfl⟩))
    (fun os started H enc _ => lifted os started H enc)
end spansSpec
theorem spansSpec_holds : Rows.SpansSpecSaid := spansSpec.over
#print axioms spansSpec_holds
end Go.Proofs.Ytinkifhbpbkhpaa
