/- SpansSetsSpec: for every two lists of spans the law returns true and leaves its arguments as they were. No condition. -/
import Derived.Test.YtinkifhbpbkhpaaSane
import Derived.Test.YtinkifhbpbkhpaaRchk
import Derived.Test.YtinkifhbpbkhpaaOpen
import Derived.Test.YtinkifhbpbkhpaaAlg
namespace Go.Proofs.Ytinkifhbpbkhpaa
open Go.ChangeShapes Go.WideShapes Go.ChangeAt Go.RowKit
set_option linter.unusedVariables false

namespace spansSetsSpec

set_option maxRecDepth 100000 in
set_option maxHeartbeats 20000000 in
theorem walk (a0 : Option Addr) (cap0 : Nat) (L0 : SL) (a1 : Option Addr) (cap1 : Nat) (L1 : SL) (w : World) (s0 : Sp w a0 L0) (s1 : Sp w a1 L1) :
    Calls Try.prog 4 #[.slice a0 L0.length cap0, .slice a1 L1.length cap1] w fun e w' => e = .returned (.bool true) ∧ Below w.heap.size w w' := by
  have S_l0 := Lib.hid s0
  clear s0
  have S_l1 := Lib.hid s1
  clear s1
  by_cases hl0 : L0.length ≤ 40
  case neg =>
    have hq0 : decide (L0.length ≤ 40) = false := by simpa using hl0
    go_enter Try.func4, Try.ntmps4
    go_wp2_with fail
    refine (sane_any _).mono ?_
    rintro e w1 ⟨rfl, hb1⟩
    go_wp2_with fail
    refine (few_any _ _ _ _).mono ?_
    rintro e w2 ⟨rfl, rfl⟩
    go_wp2
    go_ret
    exact ⟨rfl, hb1⟩
  have hq0 : decide (L0.length ≤ 40) = true := by simpa using hl0
  by_cases hl1 : L1.length ≤ 40
  case neg =>
    have hq1 : decide (L1.length ≤ 40) = false := by simpa using hl1
    go_enter Try.func4, Try.ntmps4
    go_wp2_with fail
    refine (sane_any _).mono ?_
    rintro e w1 ⟨rfl, hb1⟩
    go_wp2_with fail
    refine (few_any _ _ _ _).mono ?_
    rintro e w2 ⟨rfl, rfl⟩
    go_wp2_with fail
    refine (few_any _ _ _ _).mono ?_
    rintro e w2 ⟨rfl, rfl⟩
    go_wp2
    go_ret
    exact ⟨rfl, hb1⟩
  have hq1 : decide (L1.length ≤ 40) = true := by simpa using hl1
  go_enter Try.func4, Try.ntmps4
  go_wp2_with fail
  refine (sane_any _).mono ?_
  rintro e w1 ⟨rfl, hb1⟩
  replace S_l0 := Lib.hid (S_l0.out.below hb1)
  replace S_l1 := Lib.hid (S_l1.out.below hb1)
  have HB1 := Lib.hid hb1
  have hs1 := hb1.size
  clear hb1
  go_wp2_with fail
  refine (few_any _ _ _ _).mono ?_
  rintro e w9 ⟨rfl, rfl⟩
  go_wp2_with fail
  refine (few_any _ _ _ _).mono ?_
  rintro e w9 ⟨rfl, rfl⟩
  go_wp2_with fail
  refine (union_any _ _ _ _ L0 L1 _ S_l0.out S_l1.out (few_of hl0) (few_of hl1)).mono ?_
  rintro e w2 ⟨⟨a2, c2, rfl, h2⟩, hb2⟩
  replace S_l0 := Lib.hid (S_l0.out.below hb2)
  replace S_l1 := Lib.hid (S_l1.out.below hb2)
  have HB2 := Lib.hid (HB1.out.trans (hb2.mono hs1))
  have hs2 := HB2.out.size
  clear hb2
  clear HB1 hs1
  have S_x := Lib.hid h2
  clear h2
  go_wp2_with fail
  refine (runion_any _ _ _ _ L0 L1 _ S_l0.out S_l1.out (few_of hl0) (few_of hl1)).mono ?_
  rintro e w3 ⟨⟨a3, c3, rfl, h3⟩, hb3⟩
  replace S_l0 := Lib.hid (S_l0.out.below hb3)
  replace S_l1 := Lib.hid (S_l1.out.below hb3)
  replace S_x := Lib.hid (S_x.out.below hb3)
  have HB3 := Lib.hid (HB2.out.trans (hb3.mono hs2))
  have hs3 := HB3.out.size
  clear hb3
  clear HB2 hs2
  have S_y := Lib.hid h3
  clear h3
  go_wp2_with fail
  refine (same_to _ _ _ _ _ _ (rfl) _ S_x.out S_y.out (runsL_len _)).mono ?_
  rintro e w4 ⟨rfl, hb4⟩
  replace S_l0 := Lib.hid (S_l0.out.below hb4)
  replace S_l1 := Lib.hid (S_l1.out.below hb4)
  replace S_x := Lib.hid (S_x.out.below hb4)
  replace S_y := Lib.hid (S_y.out.below hb4)
  have HB4 := Lib.hid (HB3.out.trans (hb4.mono hs3))
  have hs4 := HB4.out.size
  clear hb4
  clear HB3 hs3
  clear S_x
  clear S_y
  go_wp2_with fail
  refine (meet_any _ _ _ _ L0 L1 _ S_l0.out S_l1.out (few_of hl0) (few_of hl1)).mono ?_
  rintro e w5 ⟨⟨a5, c5, rfl, h5⟩, hb5⟩
  replace S_l0 := Lib.hid (S_l0.out.below hb5)
  replace S_l1 := Lib.hid (S_l1.out.below hb5)
  have HB5 := Lib.hid (HB4.out.trans (hb5.mono hs4))
  have hs5 := HB5.out.size
  clear hb5
  clear HB4 hs4
  have S_x := Lib.hid h5
  clear h5
  go_wp2_with fail
  refine (rmeet_any _ _ _ _ L0 L1 _ S_l0.out S_l1.out (few_of hl0) (few_of hl1)).mono ?_
  rintro e w6 ⟨⟨a6, c6, rfl, h6⟩, hb6⟩
  replace S_l0 := Lib.hid (S_l0.out.below hb6)
  replace S_l1 := Lib.hid (S_l1.out.below hb6)
  replace S_x := Lib.hid (S_x.out.below hb6)
  have HB6 := Lib.hid (HB5.out.trans (hb6.mono hs5))
  have hs6 := HB6.out.size
  clear hb6
  clear HB5 hs5
  have S_y := Lib.hid h6
  clear h6
  go_wp2_with fail
  refine (same_to _ _ _ _ _ _ (rfl) _ S_x.out S_y.out (runsL_len _)).mono ?_
  rintro e w7 ⟨rfl, hb7⟩
  replace S_l0 := Lib.hid (S_l0.out.below hb7)
  replace S_l1 := Lib.hid (S_l1.out.below hb7)
  replace S_x := Lib.hid (S_x.out.below hb7)
  replace S_y := Lib.hid (S_y.out.below hb7)
  have HB7 := Lib.hid (HB6.out.trans (hb7.mono hs6))
  have hs7 := HB7.out.size
  clear hb7
  clear HB6 hs6
  clear S_x
  clear S_y
  go_wp2_with fail
  refine (minus_any _ _ _ _ L0 L1 _ S_l0.out S_l1.out (few_of hl0) (few_of hl1)).mono ?_
  rintro e w8 ⟨⟨a8, c8, rfl, h8⟩, hb8⟩
  replace S_l0 := Lib.hid (S_l0.out.below hb8)
  replace S_l1 := Lib.hid (S_l1.out.below hb8)
  have HB8 := Lib.hid (HB7.out.trans (hb8.mono hs7))
  have hs8 := HB8.out.size
  clear hb8
  clear HB7 hs7
  have S_x := Lib.hid h8
  clear h8
  go_wp2_with fail
  refine (rminus_any _ _ _ _ L0 L1 _ S_l0.out S_l1.out (few_of hl0) (few_of hl1)).mono ?_
  rintro e w9 ⟨⟨a9, c9, rfl, h9⟩, hb9⟩
  replace S_l0 := Lib.hid (S_l0.out.below hb9)
  replace S_l1 := Lib.hid (S_l1.out.below hb9)
  replace S_x := Lib.hid (S_x.out.below hb9)
  have HB9 := Lib.hid (HB8.out.trans (hb9.mono hs8))
  have hs9 := HB9.out.size
  clear hb9
  clear HB8 hs8
  have S_y := Lib.hid h9
  clear h9
  go_wp2_with fail
  refine (same_to _ _ _ _ _ _ (rfl) _ S_x.out S_y.out (runsL_len _)).mono ?_
  rintro e w10 ⟨rfl, hb10⟩
  replace S_l0 := Lib.hid (S_l0.out.below hb10)
  replace S_l1 := Lib.hid (S_l1.out.below hb10)
  replace S_x := Lib.hid (S_x.out.below hb10)
  replace S_y := Lib.hid (S_y.out.below hb10)
  have HB10 := Lib.hid (HB9.out.trans (hb10.mono hs9))
  have hs10 := HB10.out.size
  clear hb10
  clear HB9 hs9
  clear S_x
  clear S_y
  go_wp2
  go_ret
  exact ⟨rfl, HB10.out⟩

set_option maxRecDepth 100000 in
theorem lifted (os : Os) (started : os.Started) (H : Type) (enc : TypeId × Value → H) :
    ReturnsInHanded {} Try.checked os 4 .any (Rows.spansSetsSpecSpec.pre6 enc Try.prog Try.f4 Rows.spansSetsSpecRow.domain false) (Rows.spansSetsSpecSpec.post enc Try.prog Try.f4 false true false false) := by
  refine returnsInHanded_of_change (C := Try.checked) own started (by kernel_rfl) Try.func4
    (ChangeSpec.witness6 (enc := enc) (C := Try.checked) false ⟨#[], #[.slice none 0 0, .slice none 0 0], []⟩ 8 (by kernel_rfl) (by kernel_rfl) (by kernel_rfl) (by kernel_rfl)) ?_
  intro W base args ds gs before hval0 hW hcnd _
  have hval : ∀ (j : Nat) t v, Try.f4.params[j]? = some t → args[j]? = some v → Value.okWide Try.prog W .any base t v := hval0
  have hW' := hW
  obtain ⟨p, q, hA0, hV, rfl, hfz, hnd⟩ := hW
  have hA : DataW.TrodAll enc Try.prog W 0 (fun _ => true) true Try.f4.params.toList args.toList ds p := hA0
  rw [Try.params4] at hA hval
  obtain ⟨v0, vs0, d0, ds0, p0, q0, hargs, rfl, rfl, h0, r0⟩ := trodAll_cons hA
  obtain ⟨v1, vs1, d1, ds1, p1, q1, rfl, rfl, rfl, h1, r1⟩ := trodAll_cons r0
  obtain ⟨rfl, rfl, rfl⟩ := trodAll_nil r1
  obtain rfl : args = #[v0, v1] := by cases args; simp_all
  obtain ⟨rfl, rfl⟩ := trodVars_none hV
  have k0 := h0
  have lt0 : ∀ x ∈ p0, x.block < W.heap.size := by obtain ⟨m, hm⟩ := k0; exact DataW.trod_lt m _ _ _ hm
  obtain ⟨a0, n0, cap0, rfl⟩ := okWide_slice Try.underlying22 (hval 0 22 v0 rfl rfl)
  obtain ⟨L0, rfl, s0⟩ := open_sp h0
  have k1 := h1
  have lt1 : ∀ x ∈ p1, x.block < W.heap.size := by obtain ⟨m, hm⟩ := k1; exact DataW.trod_lt m _ _ _ hm
  obtain ⟨a1, n1, cap1, rfl⟩ := okWide_slice Try.underlying22 (hval 1 22 v1 rfl rfl)
  obtain ⟨L1, rfl, s1⟩ := open_sp h1
  clear hA0 hval0
  refine (walk a0 cap0 L0 a1 cap1 L1 W s0 s1).mono fun e W' ⟨he, bel⟩ => ?_
  subst he
  exact ⟨_, rfl, _, _, _, [], _, [], hW', trodAll_mk1 (shut_bool Try.underlying4 _), (trodAll_cons_mk (Below.trod laidOut (by kernel_rfl) (of_decide_eq_true (by kernel_rfl)) k0 bel lt0) (trodAll_cons_mk (Below.trod laidOut (by kernel_rfl) (of_decide_eq_true (by kernel_rfl)) k1 bel lt1) trodAll_mk0)), rfl, bel.frame _, fun h => by cases h⟩

theorem over : Rows.spansSetsSpecRow.holds Try.pinned (OpenSpec.ofChange Rows.spansSetsSpecSpec) :=
  OpenClaim.holds_of_wide 4 Try.f4 rfl rfl rfl rfl rfl rfl rfl ⟨rfl, rfl, rfl, rfl, rfl⟩ rfl rfl rfl rfl rfl (by kernel_rfl) Try.func4 (by kernel_rfl)
    (of_decide_eq_true (by kernel_rfl)) (by unfold Func.isWrapper; first | (rw [if_pos (by decide +kernel)]; kernel_rfl) | (rw [if_neg (by decide +kernel)]; exact ⟨rfl, rfl⟩))
    (fun os started H enc _ => lifted os started H enc)
end spansSetsSpec
theorem spansSetsSpec_holds : Rows.SpansSetsSpecSaid := spansSetsSpec.over
#print axioms spansSetsSpec_holds
end Go.Proofs.Ytinkifhbpbkhpaa
