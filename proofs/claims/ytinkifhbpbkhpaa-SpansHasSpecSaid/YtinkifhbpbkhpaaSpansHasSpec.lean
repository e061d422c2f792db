/- SpansHasSpec: for every list, day and span the law returns true and leaves its arguments as they were. No condition. -/
import Derived.Test.YtinkifhbpbkhpaaSane
import Derived.Test.YtinkifhbpbkhpaaRchk
import Derived.Test.YtinkifhbpbkhpaaOpen
import Derived.Test.YtinkifhbpbkhpaaAlg
import Derived.Deep.RegionHeld3
namespace Go.Proofs.Ytinkifhbpbkhpaa
open Go.ChangeShapes Go.WideShapes Go.ChangeAt Go.RowKit
set_option linter.unusedVariables false

theorem rhas_to (a : Option Addr) (cap : Nat) (L : SL) (d : Int) {r : Bool} (h : hasB L d = r) (w : World) (hsp : Sp w a L) (hl : L.length ≤ 100000) :
    Calls Try.prog 24 #[.slice a L.length cap, .int .i64 d] w fun e w' => e = .returned (.bool r) ∧ Below w.heap.size w w' := h ▸ rhas_any a cap L d w hsp hl
theorem rcovers_to (a : Option Addr) (cap : Nat) (L : SL) (f t : Int) {r : Bool} (h : covB (dayF L) f t = r) (w : World) (hsp : Sp w a L) (hl : L.length ≤ 100000) :
    Calls Try.prog 26 #[.slice a L.length cap, .agg #[.int .i64 f, .int .i64 t]] w fun e w' => e = .returned (.bool r) ∧ Below w.heap.size w w' := h ▸ rcovers_any a cap L f t w hsp hl

namespace spansHasSpec

set_option maxRecDepth 100000 in
set_option maxHeartbeats 4000000 in
theorem walk (a0 : Option Addr) (cap0 : Nat) (L0 : SL) (z1 : Int) (f0 f1 : Int) (w : World) (s0 : Sp w a0 L0) :
    Calls Try.prog 5 #[.slice a0 L0.length cap0, .int .i64 z1, .agg #[.int .i64 f0, .int .i64 f1]] w fun e w' => e = .returned (.bool true) ∧ Below w.heap.size w w' := by
  have hw0 : Below w.heap.size w (w.alloc (.cells #[.int .i64 f0, .int .i64 f1] 31)) := (Below.refl _ _).alloc (Nat.le_refl _) _
  have S0 := Lib.hid (s0.below hw0)
  have H0 := Lib.hid hw0
  clear s0 hw0
  by_cases hl : L0.length ≤ 40
  case neg =>
    have hq : decide (L0.length ≤ 40) = false := by simpa using hl
    go_enter Try.func5, Try.ntmps5
    go_wp2_with fail
    refine (sane_any _).mono ?_
    rintro e w1 ⟨rfl, hb1⟩
    go_wp2_with fail
    refine (few_any _ _ _ _).mono ?_
    rintro e w2 ⟨rfl, rfl⟩
    go_wp2
    go_ret
    exact ⟨rfl, H0.out.trans (hb1.mono (by simp))⟩
  have hq : decide (L0.length ≤ 40) = true := by simpa using hl
  have hl2 : L0.length ≤ 100000 := by omega
  obtain ⟨x, hx⟩ : ∃ x, hasB L0 z1 = x := ⟨_, rfl⟩
  obtain ⟨y, hy⟩ : ∃ y, covB (dayF L0) f0 f1 = y := ⟨_, rfl⟩
  have HX := Lib.hid hx
  have HY := Lib.hid hy
  clear hx hy
  go_enter Try.func5, Try.ntmps5
  go_wp2_with fail
  refine (sane_any _).mono ?_
  rintro e w1 ⟨rfl, hb1⟩
  have S1 := Lib.hid (S0.out.below hb1)
  have B1 := Lib.hid (H0.out.trans (hb1.mono (by simp)))
  have X1 := (Blk.new w #[.int .i64 f0, .int .i64 f1] 31).below hb1 (by simp)
  have x0 := X1.cell 0
  have x1 := X1.cell 1
  simp at x0 x1
  have hlt := X1.lt
  have X1 := Lib.hid X1
  clear hb1
  go_wp2_with fail
  refine (few_any _ _ _ _).mono ?_
  rintro e w2 ⟨rfl, rfl⟩
  go_wp2_with fail
  go_region_held3 (fun w' => w'.cell? ⟨w.heap.size, 0, none⟩ = some (.int .i64 f0) ∧ w'.cell? ⟨w.heap.size, 1, none⟩ = some (.int .i64 f1))
    (first
      | go_keep
      | exact ⟨hc6, hd6⟩
      | exact ⟨hc5, hd5⟩
      | exact ⟨hc4, hd4⟩
      | exact ⟨hc3, hd3⟩)
    ((first
      | (go_at_call 23; refine (has_to a0 cap0 L0 z1 HX.out w1.drew S1.out hl2).mono ?_; rintro e w3 ⟨rfl, hb3⟩; have S3 := Lib.hid (Sp.below (w := w1.drew) S1.out hb3); have B3 := Lib.hid (B1.out.drew.trans (hb3.mono (Nat.le_of_lt hlt))); have hlt3 := Nat.lt_of_lt_of_le hlt hb3.size; have hc3 := (hb3.cell (p := ⟨w.heap.size, 0, none⟩) hlt).trans x0; have hd3 := (hb3.cell (p := ⟨w.heap.size, 1, none⟩) hlt).trans x1; clear hb3)
      | (go_at_call 24; refine (rhas_to a0 cap0 L0 z1 HX.out _ S3.out hl2).mono ?_; rintro e w4 ⟨rfl, hb4⟩; have S4 := Lib.hid (Sp.below S3.out hb4); have B4 := Lib.hid (B3.out.trans (hb4.mono B3.out.size)); have hlt4 := Nat.lt_of_lt_of_le hlt3 hb4.size; have hc4 := (hb4.cell (p := ⟨w.heap.size, 0, none⟩) hlt3).trans hc3; have hd4 := (hb4.cell (p := ⟨w.heap.size, 1, none⟩) hlt3).trans hd3; clear hb4)
      | (go_at_call 25; refine (covers_to a0 cap0 L0 f0 f1 HY.out _ S4.out hl2).mono ?_; rintro e w5 ⟨rfl, hb5⟩; have S5 := Lib.hid (Sp.below S4.out hb5); have B5 := Lib.hid (B4.out.trans (hb5.mono B4.out.size)); have hlt5 := Nat.lt_of_lt_of_le hlt4 hb5.size; have hc5 := (hb5.cell (p := ⟨w.heap.size, 0, none⟩) hlt4).trans hc4; have hd5 := (hb5.cell (p := ⟨w.heap.size, 1, none⟩) hlt4).trans hd4; clear hb5)
      | (go_at_call 26; refine (rcovers_to a0 cap0 L0 f0 f1 HY.out _ S5.out hl2).mono ?_; rintro e w6 ⟨rfl, hb6⟩; have B6 := Lib.hid (B5.out.trans (hb6.mono B5.out.size)); have hc6 := (hb6.cell (p := ⟨w.heap.size, 0, none⟩) hlt5).trans hc5; have hd6 := (hb6.cell (p := ⟨w.heap.size, 1, none⟩) hlt5).trans hd5; clear hb6)))
  go_wp2
  go_ret
  exact ⟨by simp, B6.out⟩

set_option maxRecDepth 100000 in
theorem lifted (os : Os) (started : os.Started) (H : Type) (enc : TypeId × Value → H) :
    ReturnsInHanded {} Try.checked os 5 .any (Rows.spansHasSpecSpec.pre6 enc Try.prog Try.f5 Rows.spansHasSpecRow.domain false) (Rows.spansHasSpecSpec.post enc Try.prog Try.f5 false true false false) := by
  refine returnsInHanded_of_change (C := Try.checked) own started (by kernel_rfl) Try.func5
    (ChangeSpec.witness6 (enc := enc) (C := Try.checked) false ⟨#[], #[.slice none 0 0, .int .i64 0, .agg #[.int .i64 0, .int .i64 0]], []⟩ 8 (by kernel_rfl) (by kernel_rfl) (by kernel_rfl) (by kernel_rfl)) ?_
  intro W base args ds gs before hval0 hW hcnd _
  have hval : ∀ (j : Nat) t v, Try.f5.params[j]? = some t → args[j]? = some v → Value.okWide Try.prog W .any base t v := hval0
  have hW' := hW
  obtain ⟨p, q, hA0, hV, rfl, hfz, hnd⟩ := hW
  have hA : DataW.TrodAll enc Try.prog W 0 (fun _ => true) true Try.f5.params.toList args.toList ds p := hA0
  rw [Try.params5] at hA hval
  obtain ⟨v0, vs0, d0, ds0, p0, q0, hargs, rfl, rfl, h0, r0⟩ := trodAll_cons hA
  obtain ⟨v1, vs1, d1, ds1, p1, q1, rfl, rfl, rfl, h1, r1⟩ := trodAll_cons r0
  obtain ⟨v2, vs2, d2, ds2, p2, q2, rfl, rfl, rfl, h2, r2⟩ := trodAll_cons r1
  obtain ⟨rfl, rfl, rfl⟩ := trodAll_nil r2
  obtain rfl : args = #[v0, v1, v2] := by cases args; simp_all
  obtain ⟨rfl, rfl⟩ := trodVars_none hV
  have k0 := h0
  have lt0 : ∀ x ∈ p0, x.block < W.heap.size := by obtain ⟨m, hm⟩ := k0; exact DataW.trod_lt m _ _ _ hm
  obtain ⟨a0, n0, cap0, rfl⟩ := okWide_slice Try.underlying22 (hval 0 22 v0 rfl rfl)
  obtain ⟨L0, rfl, s0⟩ := open_sp h0
  have k1 := h1
  have lt1 : ∀ x ∈ p1, x.block < W.heap.size := by obtain ⟨m, hm⟩ := k1; exact DataW.trod_lt m _ _ _ hm
  obtain ⟨z1, rfl, rfl, rfl, wf1⟩ := open_int Try.underlying3 (hval 1 3 v1 rfl rfl) h1
  have k2 := h2
  have lt2 : ∀ x ∈ p2, x.block < W.heap.size := by obtain ⟨m, hm⟩ := k2; exact DataW.trod_lt m _ _ _ hm
  obtain ⟨c0, c1, y0, y1, m, rfl, rfl, rfl, hy0, hy1⟩ := Go.Joins.open_agg2 Try.underlying31 (by kernel_rfl) cells31 (hval 2 31 v2 rfl rfl) h2
  obtain ⟨f0, e0, rfl, wf0⟩ := DataW.trod_int Try.underlying3 hy0
  obtain ⟨f1, e1, rfl, wf1⟩ := DataW.trod_int Try.underlying3 hy1
  simp at e0 e1
  subst e0 e1
  clear hA0 hval0
  refine (walk a0 cap0 L0 z1 f0 f1 W s0  ).mono fun e W' ⟨he, bel⟩ => ?_
  subst he
  exact ⟨_, rfl, _, _, _, [], _, [], hW', trodAll_mk1 (shut_bool Try.underlying4 _), (trodAll_cons_mk (Below.trod laidOut (by kernel_rfl) (of_decide_eq_true (by kernel_rfl)) k0 bel lt0) (trodAll_cons_mk (Below.trod laidOut (by kernel_rfl) (of_decide_eq_true (by kernel_rfl)) k1 bel lt1) (trodAll_cons_mk (Below.trod laidOut (by kernel_rfl) (of_decide_eq_true (by kernel_rfl)) k2 bel lt2) trodAll_mk0))), rfl, bel.frame _, fun h => by cases h⟩

theorem over : Rows.spansHasSpecRow.holds Try.pinned (OpenSpec.ofChange Rows.spansHasSpecSpec) :=
  OpenClaim.holds_of_wide 5 Try.f5 rfl rfl rfl rfl rfl rfl rfl ⟨rfl, rfl, rfl, rfl, rfl⟩ rfl rfl rfl rfl rfl (by kernel_rfl) Try.func5 (by kernel_rfl)
    (of_decide_eq_true (by kernel_rfl)) (by unfold Func.isWrapper; first | (rw [if_pos (by decide +kernel)]; kernel_rfl) | (rw [if_neg (by decide +kernel)]; exact ⟨rfl, rfl⟩))
    (fun os started H enc _ => lifted os started H enc)
end spansHasSpec
theorem spansHasSpec_holds : Rows.SpansHasSpecSaid := spansHasSpec.over
#print axioms spansHasSpec_holds
end Go.Proofs.Ytinkifhbpbkhpaa
